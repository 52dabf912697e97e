import Derived.Test.YtihnkijeefkefaaGreatLA
import Derived.Test.YtihnkijeefkefaaGreatR6
import Derived.Test.YtihnkijeefkefaaGreatQ26
set_option linter.unusedSimpArgs false
set_option linter.unusedVariables false
set_option linter.unusedSectionVars false
set_option linter.unnecessarySimpa false
set_option maxRecDepth 100000
/- Rows of numbers as they are handed in. -/
namespace Go.RowKit
open Go.ChangeShapes Go.WideShapes Go.ChangeAt Go.Deep
section
variable {H : Type} {enc : TypeId × Value → H} {P : Program} {W : World} {base : Nat} {t e : TypeId} {v : Value} {d : DataW H} {p : List MemPlace}

theorem arg_ints {k : IntKind} {by_ : Nat} (ht : P.underlying t = some (.slice e)) (he : P.underlying e = some (.int k)) (hc : P.cellsOf e = 1)
    (hk : Value.okWide P W .any base t v) (h : DataW.Trod enc P W 0 (fun _ => true) true t v d p)
    (hs : ∀ x y, d = .slice x y → (x.length + y.length) * by_ ≤ reachBytes) :
    ∃ zs : List Int, Reads W v 1 zs.length (zs.map (.int k)) ∧ (∀ z ∈ zs, (Lit.int k z).wf = true) ∧ zs.length * by_ ≤ reachBytes := by
  obtain ⟨a, len, cap, rfl⟩ := okWide_slice ht hk
  obtain ⟨fuel, hf⟩ := h
  rcases open_ints ht he hc hf with ⟨hcs, _⟩ | ⟨x, l, c, zs, hcs, _, hl, hm, hz, hx, hcell, hwz⟩
  · simp [Value.cells] at hcs
    obtain ⟨rfl, rfl, rfl⟩ := hcs
    exact ⟨[], .inl ⟨rfl, rfl, rfl⟩, by simp, by simp⟩
  · simp [Value.cells] at hcs
    obtain ⟨rfl, rfl, rfl⟩ := hcs
    simp only [if_true] at hz
    have e1 : (zs.take len).length = len := by rw [List.length_take]; omega
    refine ⟨zs.take len, ?_, fun z hz' => hwz z (List.mem_of_mem_take hz'), ?_⟩
    · rw [e1]
      refine .inr ⟨x, cap, rfl, hl, hm, by simp; omega, fun j u hu => ?_⟩
      have hj : j < len := by
        rcases Nat.lt_or_ge j len with h | h
        · exact h
        · rw [List.getElem?_eq_none (by simp; omega)] at hu; cases hu
      rw [hcell j (by omega)]
      rw [List.getElem?_map, List.getElem?_take, if_pos hj, List.getElem?_eq_getElem (by omega)] at hu
      simp only [Option.map_some, Option.some.injEq] at hu
      rw [← hu, List.getD_eq_getElem?_getD, List.getElem?_eq_getElem (by omega)]; rfl
    · have hd := congrArg Prod.fst hx
      have := hs _ _ hd
      refine Nat.le_trans (Nat.mul_le_mul_right _ ?_) this
      simp [lits]
end

end Go.RowKit

set_option linter.unusedSimpArgs false
set_option linter.unusedVariables false
set_option linter.unusedSectionVars false
set_option linter.unnecessarySimpa false
set_option maxRecDepth 100000
/- More of the ground texts. -/
namespace Go.Proofs.YtihnkijeefkefaaGreat
open Go.RowKit

attribute [local go_sem] Program.isFuncB Program.isSliceB

variable {w w' w'' : World}

attribute [local go_sem] Tryz.zeroRows

attribute [local go_sem] row_field0 row_field1

theorem refis_all (w : World) (n : Int) : Calls Tryz.prog 195 #[.int .i64 n] w fun e w' => e = .returned (.bool (decide (0 ≤ n ∧ n < 33))) ∧ w = w' := by
  by_cases h0 : n < 0
  · have : Hid (decide (0 ≤ n ∧ n < 33) = false) := Lib.hid (decide_eq_false (by omega))
    rw [this.out]
    go_enter Tryz.func195, Tryz.ntmps195
    go_wp2_with fail
    go_ret
    exact ⟨rfl, rfl⟩
  by_cases h1 : n < 33
  · have : Hid (decide (0 ≤ n ∧ n < 33) = true) := Lib.hid (decide_eq_true (by omega))
    rw [this.out]
    go_enter Tryz.func195, Tryz.ntmps195
    go_wp2_with fail
    go_ret
    exact ⟨rfl, rfl⟩
  · have : Hid (decide (0 ≤ n ∧ n < 33) = false) := Lib.hid (decide_eq_false (by omega))
    rw [this.out]
    go_enter Tryz.func195, Tryz.ntmps195
    go_wp2_with fail
    go_ret
    exact ⟨rfl, rfl⟩

end Go.Proofs.YtihnkijeefkefaaGreat

namespace Go.Proofs.YtihnkijeefkefaaGreat
open Go.RowKit

attribute [local go_sem] Program.isFuncB Program.isSliceB

variable {w w' w'' : World}

theorem shape_mid (m : Nat) (h1 : 3 ≤ m) (h2 : m ≤ 19) : shapeOf m = ⟨#[119, 114, 114]⟩ := by
  obtain rfl | rfl | rfl | rfl | rfl | rfl | rfl | rfl | rfl | rfl | rfl | rfl | rfl | rfl | rfl | rfl | rfl : m = 3 ∨ m = 4 ∨ m = 5 ∨ m = 6 ∨ m = 7 ∨ m = 8 ∨ m = 9 ∨ m = 10 ∨ m = 11 ∨ m = 12 ∨ m = 13 ∨ m = 14 ∨ m = 15 ∨ m = 16 ∨ m = 17 ∨ m = 18 ∨ m = 19 := by omega
  all_goals rfl

theorem refshape_all (w : World) (n : Int) : Calls Tryz.prog 198 #[.int .i64 n] w fun e w' => e = .returned (.string (shapeI n)) ∧ w = w' := by
  by_cases hl : n = 1 ∨ n = 2 ∨ n = 20 ∨ n = 21 ∨ n = 22 ∨ n = 23 ∨ n = 24 ∨ n = 25 ∨ n = 26 ∨ n = 27 ∨ n = 28 ∨ n = 29 ∨ n = 30 ∨ n = 31 ∨ n = 32
  · rcases hl with rfl | rfl | rfl | rfl | rfl | rfl | rfl | rfl | rfl | rfl | rfl | rfl | rfl | rfl | rfl
    all_goals
      go_enter Tryz.func198, Tryz.ntmps198
      go_wp2_with fail
      go_ret
      exact ⟨rfl, rfl⟩
  have e1 : (n == 1) = false := by rw [beq_eq_false_iff_ne]; omega
  have e2 : (n == 2) = false := by rw [beq_eq_false_iff_ne]; omega
  have e20 : (n == 20) = false := by rw [beq_eq_false_iff_ne]; omega
  have e21 : (n == 21) = false := by rw [beq_eq_false_iff_ne]; omega
  have e22 : (n == 22) = false := by rw [beq_eq_false_iff_ne]; omega
  have e23 : (n == 23) = false := by rw [beq_eq_false_iff_ne]; omega
  have e24 : (n == 24) = false := by rw [beq_eq_false_iff_ne]; omega
  have e25 : (n == 25) = false := by rw [beq_eq_false_iff_ne]; omega
  have e26 : (n == 26) = false := by rw [beq_eq_false_iff_ne]; omega
  have e27 : (n == 27) = false := by rw [beq_eq_false_iff_ne]; omega
  have e28 : (n == 28) = false := by rw [beq_eq_false_iff_ne]; omega
  have e29 : (n == 29) = false := by rw [beq_eq_false_iff_ne]; omega
  have e30 : (n == 30) = false := by rw [beq_eq_false_iff_ne]; omega
  have e31 : (n == 31) = false := by rw [beq_eq_false_iff_ne]; omega
  have e32 : (n == 32) = false := by rw [beq_eq_false_iff_ne]; omega
  by_cases h1 : n < 3
  · have HS : Hid (shapeI n = ⟨#[]⟩) := by
      refine Lib.hid ?_
      unfold shapeI
      split
      · obtain rfl : n = 0 := by omega
        rfl
      · rfl
    rw [HS.out]
    clear hl
    go_enter Tryz.func198, Tryz.ntmps198
    go_wp2_with fail
    go_ret
    exact ⟨rfl, rfl⟩
  by_cases h2 : n ≤ 19
  · have HS : Hid (shapeI n = ⟨#[119, 114, 114]⟩) := by
      refine Lib.hid ?_
      rw [shapeI, if_pos (by omega)]
      exact shape_mid _ (by omega) (by omega)
    rw [HS.out]
    have h3 : 3 ≤ n := by omega
    clear hl
    go_enter Tryz.func198, Tryz.ntmps198
    go_wp2_with fail
    go_ret
    exact ⟨rfl, rfl⟩
  · have HS : Hid (shapeI n = ⟨#[]⟩) := by
      refine Lib.hid ?_
      rw [shapeI, if_neg (by omega)]
    rw [HS.out]
    have h3 : 3 ≤ n := by omega
    have h4 : 20 ≤ n := by omega
    clear hl
    go_enter Tryz.func198, Tryz.ntmps198
    go_wp2_with fail
    go_ret
    exact ⟨rfl, rfl⟩

end Go.Proofs.YtihnkijeefkefaaGreat

namespace Go.Proofs.YtihnkijeefkefaaGreat
open Go.RowKit

attribute [local go_sem] Program.isFuncB Program.isSliceB

variable {w w' w'' w0 : World}

section
variable {lb it k : Nat} {A B C : Int} {s : ByteArray} {x y x' y' : Value} {a r : List Int}

end

end Go.Proofs.YtihnkijeefkefaaGreat

namespace Go.Proofs.YtihnkijeefkefaaGreat
open Go.RowKit

attribute [local go_sem] Program.isFuncB Program.isSliceB

variable {w w' w'' w0 : World}

end Go.Proofs.YtihnkijeefkefaaGreat

namespace Go.Proofs.YtihnkijeefkefaaGreat
open Go.RowKit

attribute [local go_sem] Program.isFuncB Program.isSliceB

variable {w w' w'' w0 : World}

end Go.Proofs.YtihnkijeefkefaaGreat

namespace Go.Proofs.YtihnkijeefkefaaGreat
open Go.RowKit

attribute [local go_sem] Program.isFuncB Program.isSliceB

variable {w w' w'' w0 : World}

end Go.Proofs.YtihnkijeefkefaaGreat

namespace Go.Proofs.YtihnkijeefkefaaGreat
open Go.RowKit

attribute [local go_sem] Program.isFuncB Program.isSliceB

variable {w w' w'' w0 : World}

end Go.Proofs.YtihnkijeefkefaaGreat

namespace Go.Proofs.YtihnkijeefkefaaGreat
open Go.RowKit

attribute [local go_sem] Program.isFuncB Program.isSliceB

variable {w w' w'' w0 : World}

end Go.Proofs.YtihnkijeefkefaaGreat

namespace Go.Proofs.YtihnkijeefkefaaGreat
open Go.RowKit

attribute [local go_sem] Program.isFuncB Program.isSliceB

variable {w w' w'' w0 : World}

end Go.Proofs.YtihnkijeefkefaaGreat

namespace Go.Proofs.YtihnkijeefkefaaGreat
open Go.RowKit

attribute [local go_sem] Program.isFuncB Program.isSliceB

variable {w w' w'' w0 : World}

theorem number_ok (w : World) (c N area : Int) : Calls Tryz.prog 199 #[.int .u8 c, .int .i64 N, .int .i64 area] w fun e w' => e = .returned (.bool (numOk c N area)) ∧ w = w' := by
  by_cases h107 : c = 107
  · subst h107
    by_cases q1 : N < 1
    · have HQ : Hid (numOk 107 N area = false) := Lib.hid (by simp [numOk]; omega)
      go_enter Tryz.func199, Tryz.ntmps199
      go_wp2_with fail
      go_ret
      exact ⟨by rw [HQ.out]; rfl, rfl⟩
    by_cases q2 : ¬ N ≤ 6
    · have HQ : Hid (numOk 107 N area = false) := Lib.hid (by simp [numOk]; omega)
      go_enter Tryz.func199, Tryz.ntmps199
      go_wp2_with fail
      go_ret
      exact ⟨by rw [HQ.out]; rfl, rfl⟩
    · have HQ : Hid (numOk 107 N area = true) := Lib.hid (by simp [numOk]; omega)
      go_enter Tryz.func199, Tryz.ntmps199
      go_wp2_with fail
      go_ret
      exact ⟨by rw [HQ.out]; rfl, rfl⟩
  by_cases h109 : c = 109
  · subst h109
    by_cases q1 : N < 1
    · have HQ : Hid (numOk 109 N area = false) := Lib.hid (by simp [numOk]; omega)
      go_enter Tryz.func199, Tryz.ntmps199
      go_wp2_with fail
      go_ret
      exact ⟨by rw [HQ.out]; rfl, rfl⟩
    by_cases q2 : ¬ N ≤ 7
    · have HQ : Hid (numOk 109 N area = false) := Lib.hid (by simp [numOk]; omega)
      go_enter Tryz.func199, Tryz.ntmps199
      go_wp2_with fail
      go_ret
      exact ⟨by rw [HQ.out]; rfl, rfl⟩
    · have HQ : Hid (numOk 109 N area = true) := Lib.hid (by simp [numOk]; omega)
      go_enter Tryz.func199, Tryz.ntmps199
      go_wp2_with fail
      go_ret
      exact ⟨by rw [HQ.out]; rfl, rfl⟩
  by_cases h102 : c = 102
  · subst h102
    by_cases q1 : N < 0
    · have HQ : Hid (numOk 102 N area = false) := Lib.hid (by simp [numOk]; omega)
      go_enter Tryz.func199, Tryz.ntmps199
      go_wp2_with fail
      go_ret
      exact ⟨by rw [HQ.out]; rfl, rfl⟩
    by_cases q2 : ¬ N ≤ area
    · have HQ : Hid (numOk 102 N area = false) := Lib.hid (by simp [numOk]; omega)
      go_enter Tryz.func199, Tryz.ntmps199
      go_wp2_with fail
      go_ret
      exact ⟨by rw [HQ.out]; rfl, rfl⟩
    · have HQ : Hid (numOk 102 N area = true) := Lib.hid (by simp [numOk]; omega)
      go_enter Tryz.func199, Tryz.ntmps199
      go_wp2_with fail
      go_ret
      exact ⟨by rw [HQ.out]; rfl, rfl⟩
  by_cases h100 : c = 100
  · subst h100
    by_cases q1 : N < 0
    · have HQ : Hid (numOk 100 N area = false) := Lib.hid (by simp [numOk]; omega)
      go_enter Tryz.func199, Tryz.ntmps199
      go_wp2_with fail
      go_ret
      exact ⟨by rw [HQ.out]; rfl, rfl⟩
    by_cases q2 : ¬ N ≤ 8192
    · have HQ : Hid (numOk 100 N area = false) := Lib.hid (by simp [numOk]; omega)
      go_enter Tryz.func199, Tryz.ntmps199
      go_wp2_with fail
      go_ret
      exact ⟨by rw [HQ.out]; rfl, rfl⟩
    · have HQ : Hid (numOk 100 N area = true) := Lib.hid (by simp [numOk]; omega)
      go_enter Tryz.func199, Tryz.ntmps199
      go_wp2_with fail
      go_ret
      exact ⟨by rw [HQ.out]; rfl, rfl⟩
  by_cases h116 : c = 116
  · subst h116
    by_cases q1 : N < 0
    · have HQ : Hid (numOk 116 N area = false) := Lib.hid (by simp [numOk]; omega)
      go_enter Tryz.func199, Tryz.ntmps199
      go_wp2_with fail
      go_ret
      exact ⟨by rw [HQ.out]; rfl, rfl⟩
    by_cases q2 : ¬ N ≤ 4095
    · have HQ : Hid (numOk 116 N area = false) := Lib.hid (by simp [numOk]; omega)
      have q3 : ¬ N < 4096 := by omega
      go_enter Tryz.func199, Tryz.ntmps199
      go_wp2_with fail
      go_ret
      exact ⟨by rw [HQ.out]; rfl, rfl⟩
    · have HQ : Hid (numOk 116 N area = true) := Lib.hid (by simp [numOk]; omega)
      have q3 : N < 4096 := by omega
      go_enter Tryz.func199, Tryz.ntmps199
      go_wp2_with fail
      go_ret
      exact ⟨by rw [HQ.out]; rfl, rfl⟩
  by_cases h99 : c = 99
  · subst h99
    by_cases q1 : N < 0
    · have HQ : Hid (numOk 99 N area = false) := Lib.hid (by simp [numOk]; omega)
      go_enter Tryz.func199, Tryz.ntmps199
      go_wp2_with fail
      go_ret
      exact ⟨by rw [HQ.out]; rfl, rfl⟩
    by_cases q2 : ¬ N ≤ 63
    · have HQ : Hid (numOk 99 N area = false) := Lib.hid (by simp [numOk]; omega)
      have q3 : ¬ N < 64 := by omega
      go_enter Tryz.func199, Tryz.ntmps199
      go_wp2_with fail
      go_ret
      exact ⟨by rw [HQ.out]; rfl, rfl⟩
    · have HQ : Hid (numOk 99 N area = true) := Lib.hid (by simp [numOk]; omega)
      have q3 : N < 64 := by omega
      go_enter Tryz.func199, Tryz.ntmps199
      go_wp2_with fail
      go_ret
      exact ⟨by rw [HQ.out]; rfl, rfl⟩
  by_cases h122 : c = 122
  · subst h122
    by_cases z1 : N = 1
    · subst z1
      have HQ : Hid (numOk 122 1 area = true) := Lib.hid rfl
      go_enter Tryz.func199, Tryz.ntmps199
      go_wp2_with fail
      go_ret
      exact ⟨by rw [HQ.out]; rfl, rfl⟩
    by_cases z2 : N = 2
    · subst z2
      have HQ : Hid (numOk 122 2 area = true) := Lib.hid rfl
      go_enter Tryz.func199, Tryz.ntmps199
      go_wp2_with fail
      go_ret
      exact ⟨by rw [HQ.out]; rfl, rfl⟩
    by_cases z4 : N = 4
    · subst z4
      have HQ : Hid (numOk 122 4 area = true) := Lib.hid rfl
      go_enter Tryz.func199, Tryz.ntmps199
      go_wp2_with fail
      go_ret
      exact ⟨by rw [HQ.out]; rfl, rfl⟩
    by_cases z8 : N = 8
    · subst z8
      have HQ : Hid (numOk 122 8 area = true) := Lib.hid rfl
      go_enter Tryz.func199, Tryz.ntmps199
      go_wp2_with fail
      go_ret
      exact ⟨by rw [HQ.out]; rfl, rfl⟩
    have HQ : Hid (numOk 122 N area = false) := Lib.hid (by simp [numOk]; omega)
    have y1 : (N == 1) = false := by rw [beq_eq_false_iff_ne]; exact z1
    have y2 : (N == 2) = false := by rw [beq_eq_false_iff_ne]; exact z2
    have y4 : (N == 4) = false := by rw [beq_eq_false_iff_ne]; exact z4
    have y8 : (N == 8) = false := by rw [beq_eq_false_iff_ne]; exact z8
    clear z1 z2 z4 z8
    go_enter Tryz.func199, Tryz.ntmps199
    go_wp2_with fail
    go_ret
    exact ⟨by rw [HQ.out]; rfl, rfl⟩
  have HQ : Hid (numOk c N area = true) := Lib.hid (by simp [numOk, h107, h109, h122, h102, h100, h116, h99])
  have e107 : (c == 107) = false := by rw [beq_eq_false_iff_ne]; exact h107
  have e109 : (c == 109) = false := by rw [beq_eq_false_iff_ne]; exact h109
  have e122 : (c == 122) = false := by rw [beq_eq_false_iff_ne]; exact h122
  have e102 : (c == 102) = false := by rw [beq_eq_false_iff_ne]; exact h102
  have e100 : (c == 100) = false := by rw [beq_eq_false_iff_ne]; exact h100
  have e116 : (c == 116) = false := by rw [beq_eq_false_iff_ne]; exact h116
  have e99 : (c == 99) = false := by rw [beq_eq_false_iff_ne]; exact h99
  clear h107 h109 h122 h102 h100 h116 h99
  go_enter Tryz.func199, Tryz.ntmps199
  go_wp2_with fail
  go_ret
  exact ⟨by rw [HQ.out]; rfl, rfl⟩

end Go.Proofs.YtihnkijeefkefaaGreat

namespace Go.Proofs.YtihnkijeefkefaaGreat
open Go.RowKit

attribute [local go_sem] Program.isFuncB Program.isSliceB

variable {w w' w'' w0 : World}

end Go.Proofs.YtihnkijeefkefaaGreat

namespace Go.Proofs.YtihnkijeefkefaaGreat
open Go.RowKit

attribute [local go_sem] Program.isFuncB Program.isSliceB

variable {w w' w'' w0 : World}

/-- the registers of a shape's letters among some (the document's way) -/
def stepR (regs : List Int) (t : List UInt8) (st : List Int × Nat) (c : UInt8) : List Int × Nat :=
  if c = 119 ∨ c = 114 then (if 0 < hasN t [c] then st.1 ++ [regs.getD st.2 0] else st.1, st.2 + 1) else st
def regSt (regs : List Int) (t s : List UInt8) : List Int × Nat := s.foldl (stepR regs t) ([], 0)
def regsOf (regs : List Int) (t s : List UInt8) : List Int := (regSt regs t s).1
theorem regSt_snoc (regs : List Int) (t s : List UInt8) (c : UInt8) : regSt regs t (s ++ [c]) = stepR regs t (regSt regs t s) c := by simp [regSt]
theorem stepR_len (regs : List Int) (t : List UInt8) (st : List Int × Nat) (c : UInt8) : (stepR regs t st c).1.length ≤ st.1.length + 1 ∧ (stepR regs t st c).2 ≤ st.2 + 1 := by
  unfold stepR
  split
  · split <;> simp
  · simp
theorem regSt_len (regs : List Int) (t : List UInt8) : ∀ (n : Nat) (s : List UInt8), s.length = n → (regSt regs t s).1.length ≤ n ∧ (regSt regs t s).2 ≤ n
  | 0, s, h => by rw [List.length_eq_zero_iff.1 h]; simp [regSt]
  | n + 1, s, h => by
    have hne : s ≠ [] := by rintro rfl; simp at h
    rw [← List.dropLast_concat_getLast hne, regSt_snoc]
    have ih := regSt_len regs t n s.dropLast (by simp [h])
    have := stepR_len regs t (regSt regs t s.dropLast) (s.getLast hne)
    omega
/-- the two ways tell the same -/
theorem regs_fields (A B C : Int) (s : List UInt8) : regSt [A, B, C] [119, 114] s = ((fieldsOf [A, B, C] s).1, (fieldsOf [A, B, C] s).1.length) ∧
    regSt [A, B, C] [114] s = ((fieldsOf [A, B, C] s).2.1, (fieldsOf [A, B, C] s).1.length) := by
  have key : ∀ (n : Nat) (s : List UInt8), s.length = n → regSt [A, B, C] [119, 114] s = ((fieldsOf [A, B, C] s).1, (fieldsOf [A, B, C] s).1.length) ∧
      regSt [A, B, C] [114] s = ((fieldsOf [A, B, C] s).2.1, (fieldsOf [A, B, C] s).1.length) := by
    intro n
    induction n with
    | zero => intro s h; rw [List.length_eq_zero_iff.1 h]; exact ⟨rfl, rfl⟩
    | succ n ih =>
      intro s h
      have hne : s ≠ [] := by rintro rfl; simp at h
      rw [← List.dropLast_concat_getLast hne, regSt_snoc, regSt_snoc, fieldsOf_snoc]
      obtain ⟨h1, h2⟩ := ih s.dropLast (by simp [h])
      rw [h1, h2]
      generalize s.getLast hne = c
      unfold stepR stepF
      by_cases h119 : c = 119
      · subst h119
        simp [hasN]
      · by_cases h114 : c = 114
        · subst h114
          simp [hasN]
        · simp [h119, h114]
  exact key _ s rfl

theorem extract_one (s : ByteArray) (k : Nat) (h : k < s.size) : (s.extract k (k + 1)).data.toList = [s[k]'h] := by
  rw [ByteArray.data_extract, Array.toList_extract]
  apply List.ext_getElem
  · simp; omega
  · intro i h1 h2
    have : i = 0 := by simp at h2; omega
    subst this
    simp
    rfl

set_option maxHeartbeats 4000000 in
theorem refregs_ok (w : World) (o A B C N : Int) (args : Value) (t : ByteArray) (ht : t.size ≤ 1000) :
    Calls Tryz.prog 197 #[insV o A B C N args, .string t] w fun e w' => ∃ v, e = .returned v ∧ Fr no w w' ∧
      w'.ownsRow w.heap.size 3 1 v (regsOf [A, B, C] t.data.toList (sh o)).length (ints (regsOf [A, B, C] t.data.toList (sh o))) := by
  have hok := shape_ok o
  have HSH := Lib.hid (fun w => refshape_all w o)
  unfold sh
  generalize shapeI o = s at *
  have HOK := Lib.hid hok
  have hsz := hok.size
  clear hok
  unfold insV
  have HO := Lib.hid (insObj w o A B C N args)
  have HT := Lib.hid ht
  go_enter Tryz.func197, Tryz.ntmps197
  go_wp2_with fail
  refine (HSH.out _).mono ?_
  rintro e w3 ⟨rfl, rfl⟩
  clear HO
  have HW : Hid (Fr no w (w.alloc (.cells #[.int .i64 o, .int .i64 A, .int .i64 B, .int .i64 C, .int .i64 N, args] 112))) := Lib.hid ((Fr.refl no w).alloc _)
  go_wp2_with fail
  have HW2 : Hid (Fr no w ((w.alloc (.cells #[.int .i64 o, .int .i64 A, .int .i64 B, .int .i64 C, .int .i64 N, args] 112)).alloc (.cells #[.int .i64 A, .int .i64 B, .int .i64 C] 3))) := Lib.hid (HW.out.alloc _)
  have HL : Hid (((w.alloc (.cells #[.int .i64 o, .int .i64 A, .int .i64 B, .int .i64 C, .int .i64 N, args] 112)).alloc (.cells #[.int .i64 A, .int .i64 B, .int .i64 C] 3)).heap[w.heap.size + 1]? = some (.cells #[.int .i64 A, .int .i64 B, .int .i64 C] 3 (0, 0))) := Lib.hid (heap_new2' w _ _)
  have HZ : Hid (((w.alloc (.cells #[.int .i64 o, .int .i64 A, .int .i64 B, .int .i64 C, .int .i64 N, args] 112)).alloc (.cells #[.int .i64 A, .int .i64 B, .int .i64 C] 3)).heap.size = w.heap.size + 2) := Lib.hid (by simp)
  generalize ((w.alloc (.cells #[.int .i64 o, .int .i64 A, .int .i64 B, .int .i64 C, .int .i64 N, args] 112)).alloc (.cells #[.int .i64 A, .int .i64 B, .int .i64 C] 3)) = W at *
  clear HW
  go_loopw [7, 8, 9] (fun x y z wr => ∃ k : Nat, z = .int .i64 k ∧ y = .int .i64 ((regSt [A, B, C] t.data.toList (s.data.toList.take k)).2 : Nat) ∧ k ≤ s.size ∧
    Hid (wr.ownsRow W.heap.size 3 1 x (regSt [A, B, C] t.data.toList (s.data.toList.take k)).1.length (ints (regSt [A, B, C] t.data.toList (s.data.toList.take k)).1)) ∧ Hid (Fr no W wr)) (fun _ _ z _ => (s.size - intOf z).toNat)
  case atStart => exact ⟨0, rfl, rfl, by omega, Lib.hid (World.ownsRow_nil _ _ _ _), Lib.hid (Fr.refl _ _)⟩
  case round =>
    obtain ⟨k, rfl, rfl, hk, hown, hfr⟩ := hrel
    obtain ⟨xa, xc, rfl⟩ := owns_shape hown.out
    have hlen := regSt_len [A, B, C] t.data.toList k (s.data.toList.take k) (blen_take s k hk)
    by_cases hks : k < s.size
    · have hks' : (k : Int) < s.size := by omega
      have hsnoc : regSt [A, B, C] t.data.toList (s.data.toList.take (k + 1)) = stepR [A, B, C] t.data.toList (regSt [A, B, C] t.data.toList (s.data.toList.take k)) (s[k]'hks) := by
        rw [btake_succ s k hks, regSt_snoc]
      generalize hst : regSt [A, B, C] t.data.toList (s.data.toList.take k) = st at *
      obtain ⟨la, at'⟩ := st
      dsimp only at hlen
      have HSN := Lib.hid hsnoc
      have ck : wr.cell? ⟨w.heap.size + 1, at', none⟩ = some (.int .i64 ([A, B, C].getD at' 0)) := by
        refine hfr.out.cell (cell_of_heap HL.out ?_) (by simp)
        obtain h | h | h : at' = 0 ∨ at' = 1 ∨ at' = 2 := by omega
        all_goals (rw [h]; rfl)
      have CK := Lib.hid ck
      have hl3 : at' < 3 := by omega
      have hl3' : (at' : Int) < 3 := by omega
      have hb2 : la.length ≤ 3 := by omega
      generalize hn : [A, B, C].getD at' 0 = n at *
      have HN := Lib.hid hn
      have hx := extract_one s k hks
      have HX := Lib.hid hx
      have HCI : Hid (∀ d : UInt8, ((s[k]'hks).toNat : Int) = d.toNat → s[k]'hks = d) := Lib.hid (fun d e => UInt8.toNat_inj.1 (by omega))
      clear hsnoc hst hn hx ck hlen
      by_cases hreg : s[k]'hks = 119 ∨ s[k]'hks = 114
      · have HH := Lib.hid (fun w => has_ok w t (s.extract k (k + 1)) HT.out (by rw [← blen, HX.out]; simp))
        have HH2 := Lib.hid hreg
        have hcc : Hid (hasN t.data.toList (s.extract k (k + 1)).data.toList = hasN t.data.toList [s[k]'hks]) := Lib.hid (by rw [HX.out])
        generalize hasN t.data.toList (s.extract k (k + 1)).data.toList = hn at *
        by_cases hpos : 0 < hn
        · have hpos' : (0 : Int) < hn := by omega
          have HSN2 : Hid (regSt [A, B, C] t.data.toList (s.data.toList.take (k + 1)) = (la ++ [n], at' + 1)) := Lib.hid (by
            rw [HSN.out]; unfold stepR; rw [if_pos HH2.out, if_pos (by rw [← hcc.out]; exact hpos)]; simp only [HN.out])
          have hcase : (((s[k]'hks).toNat : Int) != 119) = false ∨ ((((s[k]'hks).toNat : Int) != 119) = true ∧ (((s[k]'hks).toNat : Int) != 114) = false) := by
            rcases hreg with h | h
            · left; rw [h]; rfl
            · right; rw [h]; exact ⟨rfl, rfl⟩
          clear hreg
          obtain h1 | ⟨h1, h2⟩ := hcase
          all_goals
            go_wp2_with fail
            refine (HH.out _).mono ?_
            rintro e w4 ⟨rfl, q, rfl⟩
            have OD := Lib.hid (((owns_fr hown.out ((Fr.refl no wr).drewN q) (by simp)).alloc (.cells #[.int .i64 n] 3)))
            have R5 := Lib.hid ((hfr.out.drewN q).alloc (.cells #[.int .i64 n] 3))
            have ck := ((Fr.refl no wr).drewN q).cell CK.out (by simp)
            go_wp2_with (at_builtin; (refine wpList_append_at rfl (.tmp 44) _ 26 rfl W.heap.size 3 (.int .i64 0) 1 8 Tryz.underlying26 Tryz.infoInt rfl (by decide) _ la.length _ rfl OD.out 1 [.int .i64 n] (reads_one _ _ _) int_one (by unfold maxLen; omega) (by omega) (by have := R5.out.size; exact this) ?_); intro ga gc w6 ho hg hb)
            have HO6 : Hid (w6.ownsRow W.heap.size 3 1 (.slice ga (la.length + 1) gc) (la ++ [n]).length (ints (la ++ [n]))) := Lib.hid (by simpa [ints] using ho)
            have R6 := Lib.hid (R5.out.trans' ((Fr.refl (fun k => (Value.slice xa la.length xc).ownBlock = some k) _).grown hg (fun k hk => .inl hk)) (fun k hk _ => (hown.out.lt k hk).1))
            clear ho hg hb ck
            go_roundw
            case rel => exact ⟨k + 1, by go_num, by rw [HSN2.out]; go_num, by omega, by rw [HSN2.out]; exact HO6, R6⟩
            case measure => first | (simp [intOf]; done) | (simp [intOf]; omega)
        · have hpos' : ¬ (0 : Int) < hn := by omega
          have HSN2 : Hid (regSt [A, B, C] t.data.toList (s.data.toList.take (k + 1)) = (la, at' + 1)) := Lib.hid (by
            rw [HSN.out]; unfold stepR; rw [if_pos HH2.out, if_neg (by rw [← hcc.out]; exact hpos)])
          have hcase : (((s[k]'hks).toNat : Int) != 119) = false ∨ ((((s[k]'hks).toNat : Int) != 119) = true ∧ (((s[k]'hks).toNat : Int) != 114) = false) := by
            rcases hreg with h | h
            · left; rw [h]; rfl
            · right; rw [h]; exact ⟨rfl, rfl⟩
          clear hreg
          obtain h1 | ⟨h1, h2⟩ := hcase
          all_goals
            go_wp2_with fail
            refine (HH.out _).mono ?_
            rintro e w4 ⟨rfl, q, rfl⟩
            have OD := Lib.hid (((owns_fr hown.out ((Fr.refl no wr).drewN q) (by simp))))
            have R5 := Lib.hid ((hfr.out.drewN q))
            go_wp2_with fail
            go_roundw
            case rel => exact ⟨k + 1, by go_num, by rw [HSN2.out]; go_num, by omega, by rw [HSN2.out]; exact OD, R5⟩
            case measure => first | (simp [intOf]; done) | (simp [intOf]; omega)
      · have h1 : ¬ s[k]'hks = 119 := fun e => hreg (.inl e)
        have h2 : ¬ s[k]'hks = 114 := fun e => hreg (.inr e)
        have HSN2 : Hid (regSt [A, B, C] t.data.toList (s.data.toList.take (k + 1)) = (la, at')) := Lib.hid (by
          rw [HSN.out]; unfold stepR; rw [if_neg (by rintro (e | e); exact h1 e; exact h2 e)])
        have e1 : (((s[k]'hks).toNat : Int) != 119) = true := by
          rw [bne_iff_ne]; exact fun e => h1 (HCI.out 119 e)
        have e2 : (((s[k]'hks).toNat : Int) != 114) = true := by
          rw [bne_iff_ne]; exact fun e => h2 (HCI.out 114 e)
        clear h1 h2 hreg
        go_wp2_with fail
        go_roundw
        case rel => exact ⟨k + 1, by go_num, by rw [HSN2.out], by omega, by rw [HSN2.out]; exact hown, hfr⟩
        case measure => first | (simp [intOf]; done) | (simp [intOf]; omega)
    · obtain rfl : k = s.size := by omega
      have hall : s.data.toList.take s.size = s.data.toList := by rw [← blen, List.take_length]
      have HALL := Lib.hid hall
      have FIN : Hid (wr.ownsRow w.heap.size 3 1 (.slice xa (regSt [A, B, C] t.data.toList (s.data.toList.take s.size)).1.length xc) (regsOf [A, B, C] t.data.toList s.data.toList).length (ints (regsOf [A, B, C] t.data.toList s.data.toList))) := by
        refine Lib.hid ?_
        have := owns_base hown.out (base' := w.heap.size) (fun k hk => by have := (hown.out.lt k hk).1; have := HW2.out.size; omega)
        unfold regsOf
        rw [hall] at this ⊢
        exact this
      clear hall hlen
      go_wp2_with fail
      go_ret
      exact ⟨_, rfl, HW2.out.trans hfr.out, FIN.out⟩

end Go.Proofs.YtihnkijeefkefaaGreat

namespace Go.Proofs.YtihnkijeefkefaaGreat
open Go.RowKit

attribute [local go_sem] Program.isFuncB Program.isSliceB

variable {w w' w'' w0 : World}

theorem shape_facts : ∀ n, n < 33 → (let s := (shapeOf n).data.toList
    hasN s [119, 114] = Lib.countByte s 119 + Lib.countByte s 114 ∧ decide (0 < hasN s numLetters) = Lib.containsAny s numLetters ∧ decide (0 < hasN s [108]) = hasB s 108 ∧ decide (0 < hasN s [116]) = hasB s 116) := by decide
theorem sh_facts (o : Int) : hasN (sh o) [119, 114] = manyOf o ∧ decide (0 < hasN (sh o) numLetters) = Lib.containsAny (sh o) numLetters ∧ decide (0 < hasN (sh o) [108]) = hasB (sh o) 108 ∧ decide (0 < hasN (sh o) [116]) = hasB (sh o) 116 := by
  unfold manyOf sh shapeI
  split
  · rename_i h
    exact shape_facts o.toNat (by omega)
  · decide

theorem bare_has (o A B C N : Int) (k : Nat) : bareB o A B C N k = (([A, B, C].drop (hasN (sh o) [119, 114])).all (· == 0) && (decide (0 < hasN (sh o) numLetters) || N == 0) && (decide (0 < hasN (sh o) [108]) || k == 0)) := by
  obtain ⟨h1, h2, h3, _⟩ := sh_facts o
  rw [h1, h2, h3]; rfl

set_option maxHeartbeats 4000000 in
theorem refbare_ok (w : World) (o A B C N : Int) (ua : Option Addr) (uc k : Nat) :
    Calls Tryz.prog 196 #[insV o A B C N (.slice ua k uc)] w fun e w' => e = .returned (.bool (bareB o A B C N k)) ∧ Fr no w w' := by
  have HSH := Lib.hid (fun w => refshape_all w o)
  have hok := shape_ok o
  have HC := Lib.hid (fun w => has_ok w (shapeI o) ⟨#[119, 114]⟩ (by have := hok.size; omega) (by decide))
  have HA := Lib.hid (fun w => has_ok w (shapeI o) ⟨#[105, 107, 109, 122, 102, 100, 116, 99]⟩ (by have := hok.size; omega) (by decide))
  have HL := Lib.hid (fun w => has_ok w (shapeI o) ⟨#[108]⟩ (by have := hok.size; omega) (by decide))
  have hm := many_le o
  rw [← (sh_facts o).1] at hm
  rw [bare_has]
  unfold sh at *
  clear hok
  rw [show (⟨#[119, 114]⟩ : ByteArray).data.toList = [119, 114] from rfl] at HC
  rw [show (⟨#[105, 107, 109, 122, 102, 100, 116, 99]⟩ : ByteArray).data.toList = numLetters from rfl] at HA
  rw [show (⟨#[108]⟩ : ByteArray).data.toList = [108] from rfl] at HL
  generalize hasN (shapeI o).data.toList [119, 114] = m at *
  generalize hasN (shapeI o).data.toList numLetters = n1 at *
  generalize hasN (shapeI o).data.toList [108] = n2 at *
  generalize shapeI o = s at *
  unfold insV
  have R0 : Hid (Fr no w (w.alloc (.cells #[.int .i64 o, .int .i64 A, .int .i64 B, .int .i64 C, .int .i64 N, .slice ua k uc] 112))) := Lib.hid ((Fr.refl no w).alloc _)
  have HI := Lib.hid (insObj w o A B C N (.slice ua k uc))
  go_enter Tryz.func196, Tryz.ntmps196
  go_wp2_with fail
  refine (HSH.out _).mono ?_
  rintro e w3 ⟨rfl, rfl⟩
  go_wp2_with fail
  refine (HC.out _).mono ?_
  rintro e w3 ⟨rfl, q, rfl⟩
  have hi := ((Fr.refl no (w.alloc (.cells #[.int .i64 o, .int .i64 A, .int .i64 B, .int .i64 C, .int .i64 N, .slice ua k uc] 112))).drewN q).heap HI.out (by simp)
  have R1 := Lib.hid (R0.out.drewN q)
  have hsz1 : ((w.alloc (.cells #[.int .i64 o, .int .i64 A, .int .i64 B, .int .i64 C, .int .i64 N, .slice ua k uc] 112)).drewN q).heap.size = w.heap.size + 1 := by
    show (w.alloc _).heap.size = _
    simp
  have HS1 := Lib.hid hsz1
  generalize (w.alloc (.cells #[.int .i64 o, .int .i64 A, .int .i64 B, .int .i64 C, .int .i64 N, .slice ua k uc] 112)).drewN q = W1 at *
  have HI1 := Lib.hid hi
  have c1 : W1.cell? ⟨w.heap.size, 1, none⟩ = some (.int .i64 A) := cell_of_heap hi rfl
  have c2 : W1.cell? ⟨w.heap.size, 2, none⟩ = some (.int .i64 B) := cell_of_heap hi rfl
  have c3 : W1.cell? ⟨w.heap.size, 3, none⟩ = some (.int .i64 C) := cell_of_heap hi rfl
  clear hi hsz1 HI
  go_wp2_with fail
  have R2 := Lib.hid (R1.out.alloc (.cells #[.int .i64 A, .int .i64 B, .int .i64 C] 3))
  have HI2 := Lib.hid (((Fr.refl no W1).alloc (.cells #[.int .i64 A, .int .i64 B, .int .i64 C] 3)).heap HI1.out (by simp))
  have HL2 := Lib.hid (heap_new W1 (.cells #[.int .i64 A, .int .i64 B, .int .i64 C] 3))
  generalize W1.alloc (.cells #[.int .i64 A, .int .i64 B, .int .i64 C] 3) = W2 at *
  generalize W1.heap.size = lb at *
  clear c1 c2 c3
  go_loop [6] (fun z => ∃ i : Nat, z = .int .i64 i ∧ m ≤ i ∧ i ≤ 3 ∧ Hid (∀ j, m ≤ j → j < i → [A, B, C].getD j 0 = 0)) (fun z => (3 - intOf z).toNat)
  case atStart => exact ⟨m, rfl, by omega, hm, Lib.hid (fun j h1 h2 => by omega)⟩
  case round =>
    obtain ⟨i, rfl, hi1, hi2, hz⟩ := hrel
    by_cases hlt : i < 3
    · have hlt' : (i : Int) < 3 := by omega
      have ck : W2.cell? ⟨lb, i, none⟩ = some (.int .i64 ([A, B, C].getD i 0)) := by
        refine cell_of_heap HL2.out ?_
        obtain h | h | h : i = 0 ∨ i = 1 ∨ i = 2 := by omega
        all_goals (rw [h]; rfl)
      generalize hn : [A, B, C].getD i 0 = n at *
      have HN := Lib.hid hn
      clear hn
      by_cases h0 : n = 0
      · subst h0
        go_wp2_with fail
        go_round
        case rel => exact ⟨i + 1, by go_num, by omega, by omega, Lib.hid (fun j h1 h2 => by
          rcases Nat.lt_or_ge j i with h | h
          · exact hz.out j h1 h
          · obtain rfl : j = i := by omega
            exact HN.out)⟩
        case measure => first | (simp [intOf]; done) | (simp [intOf]; omega)
      · have e1 : (n != 0) = true := by simpa using h0
        have HNO : Hid (([A, B, C].drop m).all (· == 0) = false) := Lib.hid (by
          rw [List.all_eq_false]
          refine ⟨n, ?_, by simpa using h0⟩
          rw [← HN.out]
          obtain h | h | h : i = 0 ∨ i = 1 ∨ i = 2 := by omega
          all_goals
            subst h
            obtain h | h | h : m = 0 ∨ m = 1 ∨ m = 2 := by omega
            all_goals (subst h; first | (exfalso; omega) | simp))
        clear h0
        go_wp2_with fail
        go_ret
        exact ⟨by rw [HNO.out]; rfl, R2.out⟩
    · obtain rfl : i = 3 := by omega
      have HYES : Hid (([A, B, C].drop m).all (· == 0) = true) := Lib.hid (by
        have h0 := hz.out 0
        have h1 := hz.out 1
        have h2 := hz.out 2
        simp only [List.getD_cons_zero, List.getD_cons_succ] at h0 h1 h2
        obtain h | h | h | h : m = 0 ∨ m = 1 ∨ m = 2 ∨ m = 3 := by omega
        all_goals
          subst h
          first | (simp; done) | (simp; omega))
      have d4 : W2.cell? ⟨w.heap.size, 4, none⟩ = some (.int .i64 N) := cell_of_heap HI2.out rfl
      have d5 : W2.cell? ⟨w.heap.size, 5, none⟩ = some (.slice ua k uc) := cell_of_heap HI2.out rfl
      clear hz
      by_cases p1 : 0 < n1
      all_goals by_cases pN : N = 0
      all_goals by_cases p2 : 0 < n2
      all_goals by_cases pk : k = 0
      all_goals
        rcases Bool.eq_false_or_eq_true (([A, B, C].drop m).all (· == 0) && (decide (0 < n1) || N == 0) && (decide (0 < n2) || k == 0)) with HR | HR
        all_goals try (exfalso; rw [HYES.out] at HR; simp [p1, pN, p2, pk] at HR; done)
        have HRES := Lib.hid HR
        clear HR
        first | have i1 : (0 : Int) < n1 := by omega | have i1 : ¬ (0 : Int) < n1 := by omega
        first | have i2 : (0 : Int) < n2 := by omega | have i2 : ¬ (0 : Int) < n2 := by omega
        first | have i3 : (((k : Nat) : Int) == 0) = true := by rw [beq_iff_eq]; omega
              | have i3 : (((k : Nat) : Int) == 0) = false := by rw [beq_eq_false_iff_ne]; omega
        first | have i4 : (N == 0) = true := by rw [beq_iff_eq]; omega
              | have i4 : (N == 0) = false := by rw [beq_eq_false_iff_ne]; omega
        clear p1 pN p2 pk
        go_wp2_with fail
        refine (HA.out _).mono ?_
        rintro e w3 ⟨rfl, q1, rfl⟩
        go_wp2_with fail
        first
        | (go_ret; exact ⟨by rw [HRES.out]; rfl, R2.out.drewN _⟩)
        | (refine (HL.out _).mono ?_
           rintro e w3 ⟨rfl, q2, rfl⟩
           go_wp2_with fail
           go_ret
           exact ⟨by rw [HRES.out]; rfl, R2.out.drewN _⟩)

end Go.Proofs.YtihnkijeefkefaaGreat

namespace Go.Proofs.YtihnkijeefkefaaGreat
open Go.RowKit

attribute [local go_sem] Program.isFuncB Program.isSliceB

variable {w w' w'' w0 : World}

theorem regs_wr (o A B C : Int) : regsOf [A, B, C] [119, 114] (sh o) = (fieldsOf [A, B, C] (sh o)).1 := by
  unfold regsOf; rw [(regs_fields A B C (sh o)).1]
theorem take_any_succ {α : Type} (p : α → Bool) (L : List α) (i : Nat) (h : i < L.length) (h0 : (L.take i).any p = false) : (L.take (i + 1)).any p = p L[i] := by
  rw [List.take_succ_eq_append_getElem h, List.any_append, h0]; simp

set_option maxRecDepth 100000 in
set_option maxHeartbeats 4000000 in
theorem refcheck_ok (w : World) (o A B C N regs area : Int) (u : Value) (l : List Int) (hu : Reads w u 1 l.length (ints l)) (hl : l.length ≤ 100000) :
    Calls Tryz.prog 174 #[insV o A B C N u, .int .i64 regs, .int .i64 area] w fun e w' => e = .returned (.int .i64 (checkOf o A B C N l regs area)) ∧ Fr no w w' := by
  obtain ⟨ua, uc, rfl⟩ := hu.shape
  have HI := Lib.hid (fun w => refis_all w o)
  have HU := Lib.hid hu
  have HB := Lib.hid (fun w => refbare_ok w o A B C N ua uc l.length)
  have hF := fun w => refregs_ok w o A B C N (.slice ua l.length uc) ⟨#[119, 114]⟩ (by decide)
  rw [show (⟨#[119, 114]⟩ : ByteArray).data.toList = [119, 114] from rfl, regs_wr] at hF
  have HF := Lib.hid hF
  clear hF
  have HSH := Lib.hid (fun w => refshape_all w o)
  have HOB := Lib.hid (insObj w o A B C N (.slice ua l.length uc))
  have R0 : Hid (Fr no w (w.alloc (.cells #[.int .i64 o, .int .i64 A, .int .i64 B, .int .i64 C, .int .i64 N, .slice ua l.length uc] 112))) := Lib.hid ((Fr.refl no w).alloc _)
  clear hu
  by_cases his : 0 ≤ o ∧ o < 33
  case neg =>
    have hd : Hid (decide (0 ≤ o ∧ o < 33) = false) := Lib.hid (decide_eq_false his)
    have HR : Hid (checkOf o A B C N l regs area = 16) := Lib.hid (by unfold checkOf; rw [if_pos his])
    rw [hd.out] at HI
    rw [HR.out]
    unfold insV at *
    clear his
    go_enter Tryz.func174, Tryz.ntmps174
    go_wp2_with fail
    refine (HI.out _).mono ?_
    rintro e w' ⟨rfl, rfl⟩
    go_wp2_with fail
    go_ret
    exact ⟨rfl, R0.out⟩
  have hd : Hid (decide (0 ≤ o ∧ o < 33) = true) := Lib.hid (decide_eq_true his)
  rw [hd.out] at HI
  have HIS := Lib.hid his
  clear his
  by_cases hra : regs < 0 ∨ 64 < regs ∨ area < 0 ∨ 4096 < area
  case pos =>
    have HR : Hid (checkOf o A B C N l regs area = 2) := Lib.hid (by
      unfold checkOf
      rw [if_neg (fun h => h HIS.out), if_pos (by rcases hra with h | h | h | h; exact .inl h; exact .inr (.inl h); exact .inr (.inr (.inl h)); exact .inr (.inr (.inr (.inl h))))])
    rw [HR.out]
    unfold insV at *
    have hcases : regs < 0 ∨ (¬ regs < 0 ∧ 64 < regs) ∨ (¬ regs < 0 ∧ ¬ 64 < regs ∧ area < 0) ∨ (¬ regs < 0 ∧ ¬ 64 < regs ∧ ¬ area < 0 ∧ 4096 < area) := by omega
    clear hra
    rcases hcases with h1 | ⟨h1, h2⟩ | ⟨h1, h2, h3⟩ | ⟨h1, h2, h3, h4⟩
    all_goals
      go_enter Tryz.func174, Tryz.ntmps174
      go_wp2_with fail
      refine (HI.out _).mono ?_
      rintro e w' ⟨rfl, rfl⟩
      go_wp2_with fail
      go_ret
      exact ⟨rfl, R0.out⟩
  have g1 : ¬ regs < 0 := by omega
  have g2 : ¬ 64 < regs := by omega
  have g3 : ¬ area < 0 := by omega
  have g4 : ¬ 4096 < area := by omega
  have HRA := Lib.hid hra
  clear hra
  have hfew := fields_few o A B C
  unfold sh at hfew HF
  have HFEW := Lib.hid hfew
  clear hfew
  have HCO := Lib.hid (show checkOf o A B C N l regs area = if bareB o A B C N l.length = false then 2 else if 8 < l.length then 3 else if ((fieldsOf [A, B, C] (shapeI o).data.toList).1 ++ l).any (out1 regs) = true then 5 else if (shapeI o).data.toList.any (fun c => !numOk c.toNat N area) = true then 5 else 0 from by
    unfold checkOf
    rw [if_neg (fun h => h HIS.out)]
    by_cases hb : bareB o A B C N l.length = false
    · rw [if_pos (.inr (.inr (.inr (.inr hb)))), if_pos hb]
    · rw [if_neg (by rintro (h | h | h | h | h) <;> first | exact HRA.out (.inl h) | exact HRA.out (.inr (.inl h)) | exact HRA.out (.inr (.inr (.inl h))) | exact HRA.out (.inr (.inr (.inr h))) | exact hb h), if_neg hb]; rfl)
  generalize checkOf o A B C N l regs area = res at *
  have hok := shape_ok o
  generalize fieldsOf [A, B, C] (shapeI o).data.toList = f at *
  generalize shapeI o = s at *
  generalize bareB o A B C N l.length = bb at *
  have HOK := Lib.hid hok
  have hsz := hok.size
  clear hok
  unfold insV at *
  go_enter Tryz.func174, Tryz.ntmps174
  go_wp2_with fail
  refine (HI.out _).mono ?_
  rintro e w' ⟨rfl, rfl⟩
  go_wp2_with fail
  refine (HB.out _).mono ?_
  rintro e w1 ⟨rfl, r1⟩
  have hob1 := r1.heap HOB.out (by simp)
  have R1 := Lib.hid (R0.out.trans r1)
  have HOB1 := Lib.hid hob1
  have c0 : w1.cell? ⟨w.heap.size, 0, none⟩ = some (.int .i64 o) := cell_of_heap hob1 rfl
  have c1 : w1.cell? ⟨w.heap.size, 1, none⟩ = some (.int .i64 A) := cell_of_heap hob1 rfl
  have c2 : w1.cell? ⟨w.heap.size, 2, none⟩ = some (.int .i64 B) := cell_of_heap hob1 rfl
  have c3 : w1.cell? ⟨w.heap.size, 3, none⟩ = some (.int .i64 C) := cell_of_heap hob1 rfl
  have c4 : w1.cell? ⟨w.heap.size, 4, none⟩ = some (.int .i64 N) := cell_of_heap hob1 rfl
  have c5 : w1.cell? ⟨w.heap.size, 5, none⟩ = some (.slice ua l.length uc) := cell_of_heap hob1 rfl
  clear r1 hob1
  cases bb with
  | false =>
    go_wp2_with fail
    go_ret
    exact ⟨by rw [HCO.out]; rfl, R1.out⟩
  | true =>
  have HCO2 : Hid (res = if 8 < l.length then 3 else if (f.1 ++ l).any (out1 regs) = true then 5 else if s.data.toList.any (fun c => !numOk c.toNat N area) = true then 5 else 0) := Lib.hid (by rw [HCO.out, if_neg (by simp)])
  clear HCO
  by_cases hlen : 8 < l.length
  · have hlen' : (8 : Int) < l.length := by omega
    go_wp2_with fail
    go_ret
    exact ⟨by rw [HCO2.out, if_pos hlen]; rfl, R1.out⟩
  have hlen' : ¬ (8 : Int) < l.length := by omega
  go_wp2_with fail
  have HOB1d := Lib.hid (((Fr.refl no w1).drew).heap HOB1.out (by simp))
  have R1d := Lib.hid (R1.out.drew)
  have c0 : w1.drew.cell? ⟨w.heap.size, 0, none⟩ = some (.int .i64 o) := cell_of_heap HOB1d.out rfl
  have c1 : w1.drew.cell? ⟨w.heap.size, 1, none⟩ = some (.int .i64 A) := cell_of_heap HOB1d.out rfl
  have c2 : w1.drew.cell? ⟨w.heap.size, 2, none⟩ = some (.int .i64 B) := cell_of_heap HOB1d.out rfl
  have c3 : w1.drew.cell? ⟨w.heap.size, 3, none⟩ = some (.int .i64 C) := cell_of_heap HOB1d.out rfl
  have c4 : w1.drew.cell? ⟨w.heap.size, 4, none⟩ = some (.int .i64 N) := cell_of_heap HOB1d.out rfl
  have c5 : w1.drew.cell? ⟨w.heap.size, 5, none⟩ = some (.slice ua l.length uc) := cell_of_heap HOB1d.out rfl
  refine Lex.region [1, 4] [6] (by kernel_rfl) (by kernel_rfl) ?_
  refine Lex.opens (fun w' => w'.cell? ⟨w.heap.size, 0, none⟩ = some (.int .i64 o) ∧ w'.cell? ⟨w.heap.size, 1, none⟩ = some (.int .i64 A) ∧ w'.cell? ⟨w.heap.size, 2, none⟩ = some (.int .i64 B) ∧ w'.cell? ⟨w.heap.size, 3, none⟩ = some (.int .i64 C) ∧ w'.cell? ⟨w.heap.size, 4, none⟩ = some (.int .i64 N) ∧ w'.cell? ⟨w.heap.size, 5, none⟩ = some (.slice ua l.length uc)) (⟨c0, c1, c2, c3, c4, c5⟩) ?_
  clear c0 c1 c2 c3 c4 c5
  repeat (first
    | (refine Lex.skips (by rfl) ?_; (try simp only [Act.put, List.setIfInBounds_toArray, List.set_cons_zero, List.set_cons_succ]))
    | (refine Lex.quiet (v := ?_) (by rfl) (by rfl) ?_ ?_; rotate_left; (focus (intro w' hS'; go_simp; try rfl)); (try simp only [Act.put, List.setIfInBounds_toArray, List.set_cons_zero, List.set_cons_succ])))
  refine Lex.loud (by rfl) (by rfl) ?_
  intro K' hK'
  go_simp
  refine (HF.out _).mono ?_
  rintro e w2 ⟨x, rfl, r2, hx⟩
  obtain ⟨xa, xc, rfl⟩ := owns_shape hx
  have hob2 := r2.heap HOB1d.out (by simp)
  have R2 := Lib.hid (R1d.out.trans r2)
  have HOB2 := Lib.hid hob2
  have HX := Lib.hid hx
  have HZ2 := Lib.hid r2.size
  have c0 : w2.cell? ⟨w.heap.size, 0, none⟩ = some (.int .i64 o) := cell_of_heap hob2 rfl
  have c1 : w2.cell? ⟨w.heap.size, 1, none⟩ = some (.int .i64 A) := cell_of_heap hob2 rfl
  have c2 : w2.cell? ⟨w.heap.size, 2, none⟩ = some (.int .i64 B) := cell_of_heap hob2 rfl
  have c3 : w2.cell? ⟨w.heap.size, 3, none⟩ = some (.int .i64 C) := cell_of_heap hob2 rfl
  have c4 : w2.cell? ⟨w.heap.size, 4, none⟩ = some (.int .i64 N) := cell_of_heap hob2 rfl
  have c5 : w2.cell? ⟨w.heap.size, 5, none⟩ = some (.slice ua l.length uc) := cell_of_heap hob2 rfl
  clear r2 hob2 hx
  refine hK' _ _ (⟨c0, c1, c2, c3, c4, c5⟩) ?_
  clear hK'
  try simp only [Act.put, List.setIfInBounds_toArray, List.set_cons_zero, List.set_cons_succ]
  clear c0 c1 c2 c3 c4 c5
  repeat (first
    | (refine Lex.skips (by rfl) ?_; (try simp only [Act.put, List.setIfInBounds_toArray, List.set_cons_zero, List.set_cons_succ]))
    | (refine Lex.quiet (v := ?_) (by rfl) (by rfl) ?_ ?_; rotate_left; (focus (intro w' hS'; go_simp; try rfl)); (try simp only [Act.put, List.setIfInBounds_toArray, List.set_cons_zero, List.set_cons_succ])))
  refine Lex.loud (by rfl) (by rfl) ?_
  intro K' hK'
  refine wp_append_at (.tmp 39) (.tmp 41) 26 rfl w1.drew.heap.size 3 (.int .i64 0) 1 8 Tryz.underlying26 Tryz.infoInt rfl (by decide) _ f.1.length _ rfl HX.out l.length _ (HU.out.fr R2.out (by simp)) (ints_one' l) (by have := HFEW.out.1; unfold maxLen; omega) (by have := HFEW.out.1; omega) HZ2.out ?_
  intro ga gc w4 ho hg hb
  have HV : Hid (Reads w4 (.slice ga (f.1 ++ l).length gc) 1 (f.1 ++ l).length (ints (f.1 ++ l))) := Lib.hid (by have := owns_reads ho; rw [List.length_append, show ints (f.1 ++ l) = ints f.1 ++ ints l from by simp [ints]]; exact this)
  have r4 : Fr (fun k => (Value.slice xa f.1.length xc).ownBlock = some k) w2 w4 := (Fr.refl _ w2).grown hg (fun k hk => .inl hk)
  have hxl : ∀ k, (Value.slice xa f.1.length xc).ownBlock = some k → w.heap.size < k := fun k hk => by
    have := (HX.out.lt k hk).1
    have := (Array.getElem?_eq_some_iff.1 HOB1d.out).1
    omega
  have R4 := Lib.hid (R2.out.trans' r4 (fun k hk _ => by have := hxl k hk; omega))
  have hob4 := r4.heap HOB2.out (fun hk => by have := hxl _ hk; omega)
  have HOB4 := Lib.hid hob4
  have c0 : w4.cell? ⟨w.heap.size, 0, none⟩ = some (.int .i64 o) := cell_of_heap hob4 rfl
  have c1 : w4.cell? ⟨w.heap.size, 1, none⟩ = some (.int .i64 A) := cell_of_heap hob4 rfl
  have c2 : w4.cell? ⟨w.heap.size, 2, none⟩ = some (.int .i64 B) := cell_of_heap hob4 rfl
  have c3 : w4.cell? ⟨w.heap.size, 3, none⟩ = some (.int .i64 C) := cell_of_heap hob4 rfl
  have c4 : w4.cell? ⟨w.heap.size, 4, none⟩ = some (.int .i64 N) := cell_of_heap hob4 rfl
  have c5 : w4.cell? ⟨w.heap.size, 5, none⟩ = some (.slice ua l.length uc) := cell_of_heap hob4 rfl
  clear ho hg hb r4 hxl hob4
  refine hK' _ _ (⟨c0, c1, c2, c3, c4, c5⟩) ?_
  clear hK'
  try simp only [Act.put, List.setIfInBounds_toArray, List.set_cons_zero, List.set_cons_succ]
  clear c0 c1 c2 c3 c4 c5
  repeat (first
    | (refine Lex.skips (by rfl) ?_; (try simp only [Act.put, List.setIfInBounds_toArray, List.set_cons_zero, List.set_cons_succ]))
    | (refine Lex.quiet (v := ?_) (by rfl) (by rfl) ?_ ?_; rotate_left; (focus (intro w' hS'; go_simp; try rfl)); (try simp only [Act.put, List.setIfInBounds_toArray, List.set_cons_zero, List.set_cons_succ])))
  refine Lex.done ?_
  refine Lex.ends ?_
  have hLL : (f.1 ++ l).length = f.1.length + l.length := by simp
  have HLL := Lib.hid hLL
  have HL8 : Hid ((f.1 ++ l).length ≤ 100) := Lib.hid (by have := HFEW.out.1; rw [HLL.out]; omega)
  rw [← hLL]
  clear hLL
  generalize f.1 ++ l = L at *
  have hL8 := HL8.out
  go_wp2_with fail
  go_loop [8] (fun x => ∃ i : Nat, x = .int .i64 i ∧ i ≤ L.length ∧ Hid ((L.take i).any (out1 regs) = false)) (fun x => (L.length - intOf x).toNat)
  case atStart => exact ⟨0, rfl, by omega, Lib.hid (by simp)⟩
  case round =>
    obtain ⟨i, rfl, hi, hno⟩ := hrel
    by_cases hlt : i < L.length
    · have hlt' : (i : Int) < L.length := by omega
      obtain ⟨b, o1, rfl, ci⟩ := reads_int HV.out hlt
      have HSN := Lib.hid (take_any_succ (out1 regs) L i hlt hno.out)
      have HYES : Hid (out1 regs L[i] = true → res = 5) := Lib.hid (fun h => by
        rw [HCO2.out, if_neg hlen, if_pos]
        rw [List.any_eq_true]
        exact ⟨L[i], List.getElem_mem _, h⟩)
      generalize L[i] = n at *
      have hcs : n < 0 ∨ (¬ n < 0 ∧ regs ≤ n) ∨ (¬ n < 0 ∧ ¬ regs ≤ n) := by omega
      rcases hcs with h1 | ⟨h1, h2⟩ | ⟨h1, h2⟩
      · have HQ : Hid (out1 regs n = true) := Lib.hid (by simp [out1]; omega)
        go_wp2_with fail
        go_ret
        exact ⟨by rw [HYES.out HQ.out]; rfl, R4.out⟩
      · have HQ : Hid (out1 regs n = true) := Lib.hid (by simp [out1]; omega)
        go_wp2_with fail
        go_ret
        exact ⟨by rw [HYES.out HQ.out]; rfl, R4.out⟩
      · have HQ : Hid (out1 regs n = false) := Lib.hid (by simp [out1]; omega)
        go_wp2_with fail
        go_round
        case rel => exact ⟨i + 1, by go_num, by omega, Lib.hid (by rw [HSN.out, HQ.out])⟩
        case measure => first | (simp [intOf]; done) | (simp [intOf]; omega)
    · obtain rfl : i = L.length := by omega
      have hany : L.any (out1 regs) = false := by have := hno.out; rwa [List.take_length] at this
      have HCO3 : Hid (res = if s.data.toList.any (fun c => !numOk c.toNat N area) = true then 5 else 0) := Lib.hid (by rw [HCO2.out, if_neg hlen, if_neg (by rw [hany]; simp)])
      have d0 : w4.cell? ⟨w.heap.size, 0, none⟩ = some (.int .i64 o) := cell_of_heap HOB4.out rfl
      clear HCO2 hany hno
      go_wp2_with fail
      refine (HSH.out _).mono ?_
      rintro e w' ⟨rfl, rfl⟩
      clear d0
      go_wp2_with fail
      go_loopw [10] (fun x wr => ∃ k q : Nat, x = .int .i64 k ∧ k ≤ s.size ∧ Hid (wr = w4.drewN q) ∧ Hid ((s.data.toList.take k).any (fun c => !numOk c.toNat N area) = false)) (fun x _ => (s.size - intOf x).toNat)
      case atStart => exact ⟨0, 0, rfl, by omega, Lib.hid rfl, Lib.hid (by simp)⟩
      case round =>
        obtain ⟨k, q, rfl, hk, hwr, hno⟩ := hrel
        by_cases hks : k < s.size
        · have hks' : (k : Int) < s.size := by omega
          have d4 : wr.cell? ⟨w.heap.size, 4, none⟩ = some (.int .i64 N) := by
            rw [hwr.out]; exact ((Fr.refl no w4).drewN q).cell (cell_of_heap HOB4.out rfl) (by simp)
          have hsn : (s.data.toList.take (k + 1)).any (fun c => !numOk c.toNat N area) = !numOk (s[k]'hks).toNat N area := by
            rw [btake_succ s k hks, List.any_append, hno.out]; simp
          have HSN := Lib.hid hsn
          have HMEM : Hid (numOk (s[k]'hks).toNat N area = false → res = 5) := Lib.hid (fun h => by
            rw [HCO3.out, if_pos]
            rw [List.any_eq_true]
            refine ⟨s[k]'hks, ?_, by rw [h]; rfl⟩
            have : s.data.toList[k]'(by rw [blen]; exact hks) = s[k]'hks := rfl
            rw [← this]; exact List.getElem_mem _)
          have HNUM := Lib.hid (fun w => (number_ok w ((s[k]'hks).toNat : Int) N area).mono (fun e w' (h : e = _ ∧ w = w') => (⟨h.1, h.2.symm⟩ : e = _ ∧ w' = w)))
          clear hsn
          generalize numOk (s[k]'hks).toNat N area = ok at *
          cases ok with
          | true =>
            go_wp2_with fail
            go_quiet ((go_at_call 199; exact Calls.quiet_of_same (HNUM.out _)))
            go_wp2_with fail
            go_roundw
            case rel => exact ⟨k + 1, q + nq, by go_num, by omega, Lib.hid (by rw [hwr.out, World.drewN_drewN]), Lib.hid (by rw [HSN.out]; rfl)⟩
            case measure => first | (simp [intOf]; done) | (simp [intOf]; omega)
          | false =>
            have HM5 : Hid (res = 5) := Lib.hid (HMEM.out rfl)
            go_wp2_with fail
            go_quiet ((go_at_call 199; exact Calls.quiet_of_same (HNUM.out _)))
            go_wp2_with fail
            go_ret
            exact ⟨by rw [HM5.out]; rfl, by have := hwr.out; rw [this]; exact (R4.out.drewN q).drewN nq⟩
        · obtain rfl : k = s.size := by omega
          have HZ : Hid (res = 0) := Lib.hid (by
            have h1 := hno.out
            rw [← blen, List.take_length] at h1
            rw [HCO3.out, if_neg (by rw [h1]; simp)])
          go_wp2_with fail
          go_ret
          exact ⟨by rw [HZ.out]; rfl, by have := hwr.out; rw [this]; exact R4.out.drewN q⟩

end Go.Proofs.YtihnkijeefkefaaGreat

namespace Go.Proofs.YtihnkijeefkefaaGreat
open Go.RowKit

attribute [local go_sem] Program.isFuncB Program.isSliceB

variable {w w' w'' w0 : World}

end Go.Proofs.YtihnkijeefkefaaGreat

namespace Go.Proofs.YtihnkijeefkefaaGreat
open Go.RowKit

attribute [local go_sem] Program.isFuncB Program.isSliceB

variable {w w' w'' w0 : World}

end Go.Proofs.YtihnkijeefkefaaGreat

namespace Go.Proofs.YtihnkijeefkefaaGreat
open Go.RowKit

attribute [local go_sem] Program.isFuncB Program.isSliceB

variable {w w' w'' w0 : World}

end Go.Proofs.YtihnkijeefkefaaGreat

namespace Go.Proofs.YtihnkijeefkefaaGreat
open Go.RowKit

end Go.Proofs.YtihnkijeefkefaaGreat

namespace Go.Proofs.YtihnkijeefkefaaGreat
open Go.RowKit

attribute [local go_sem] Program.isFuncB Program.isSliceB

variable {w w' w'' w0 : World}

theorem refsized_ok (w : World) (n : Nat) (h : n = 1 ∨ n = 2 ∨ n = 4 ∨ n = 8) : Calls Tryz.prog 231 #[.int .i64 n] w fun e w' => e = .returned (.bool true) ∧ w = w' := by
  rcases h with rfl | rfl | rfl | rfl
  all_goals
    go_enter Tryz.func231, Tryz.ntmps231
    go_wp2_with fail
    go_ret
    exact ⟨rfl, rfl⟩

set_option maxHeartbeats 1000000 in
theorem refput_ok (w : World) (x n : Nat) (hx : x < 18446744073709551616) (hn : n = 1 ∨ n = 2 ∨ n = 4 ∨ n = 8) :
    Calls Tryz.prog 213 #[.int .u64 x, .int .i64 n] w fun e w' => ∃ v, e = .returned (.tuple #[v, .int .i64 0]) ∧ w'.ownsRow w.heap.size 5 1 v n (u8s (le x n)) ∧ Fr no w w' := by
  have HS := Lib.hid (fun w => refsized_ok w n hn)
  have hn8 : n ≤ 8 := by omega
  have hn1 : 1 ≤ n := by omega
  clear hn
  have HX := Lib.hid hx
  clear hx
  go_enter Tryz.func213, Tryz.ntmps213
  go_wp2_with fail
  refine (HS.out _).mono ?_
  rintro e w' ⟨rfl, rfl⟩
  go_wp2_with fail
  go_loopw [0, 6, 7] (fun z a b wr => ∃ i : Nat, b = .int .i64 i ∧ i ≤ n ∧ z = .int .u64 ((x / 256 ^ i : Nat) : Int) ∧ Hid (wr.ownsRow w.heap.size 5 1 a i (u8s (le x i))) ∧ Hid (Fr no w wr)) (fun _ _ b _ => (n - intOf b).toNat)
  case atStart => exact ⟨0, rfl, by omega, by simp, Lib.hid (World.ownsRow_nil _ _ _ _), Lib.hid (Fr.refl _ _)⟩
  case round =>
    obtain ⟨i, rfl, hi, rfl, hown, hfr⟩ := hrel
    obtain ⟨xa, xc, rfl⟩ := owns_shape hown.out
    have hub : x / 256 ^ i < 18446744073709551616 := Nat.lt_of_le_of_lt (Nat.div_le_self _ _) HX.out
    by_cases hlt : i < n
    · have hlt' : (i : Int) < n := by omega
      have HLE : Hid (u8s (le x i) ++ [.int .u8 ((x / 256 ^ i % 256 : Nat) : Int)] = u8s (le x (i + 1))) := Lib.hid (by simp [u8s, le])
      have HDV : Hid (x / 256 ^ (i + 1) = x / 256 ^ i / 256) := Lib.hid (by rw [Nat.pow_succ, Nat.div_div_eq_div_mul])
      generalize x / 256 ^ i = y at *
      have hb0 : (y : Int) % 256 = ((y % 256 : Nat) : Int) := by omega
      have hb1 : (y : Int) / 256 = ((y / 256 : Nat) : Int) := by omega
      have HB1 := Lib.hid hb1
      generalize hyb : y % 256 = b at *
      have OD := Lib.hid (hown.out.alloc (.cells #[.int .u8 (b : Int)] 5))
      have R5 := Lib.hid (hfr.out.alloc (.cells #[.int .u8 (b : Int)] 5))
      have hb256 : b < 256 := by omega
      clear hyb hb1
      go_wp2_with (at_builtin; (refine wpList_append_at rfl (.tmp 16) _ 22 rfl w.heap.size 5 (.int .u8 0) 1 1 Tryz.underlying22 Tryz.infoU8 rfl (by decide) _ i _ rfl OD.out 1 [.int .u8 b] (reads_one _ _ _) int_one (by unfold maxLen; omega) (by omega) R5.out.size ?_); intro ga gc w6 ho hg hb)
      have HO6 : Hid (w6.ownsRow w.heap.size 5 1 (.slice ga (i + 1) gc) (i + 1) (u8s (le x (i + 1)))) := Lib.hid (by rw [← HLE.out]; exact ho)
      have R6 := Lib.hid (R5.out.trans' ((Fr.refl (fun k => (Value.slice xa i xc).ownBlock = some k) _).grown hg (fun k hk => .inl hk)) (fun k hk _ => (hown.out.lt k hk).1))
      clear ho hg hb hb0
      go_roundw
      case rel => exact ⟨i + 1, by go_num, by omega, by rw [HDV.out]; first | rfl | (rw [HB1.out]), HO6, R6⟩
      case measure => first | (simp [intOf]; done) | (simp [intOf]; omega)
    · obtain rfl : i = n := by omega
      go_wp2_with fail
      go_ret2
      exact ⟨_, rfl, hown.out, hfr.out⟩

end Go.Proofs.YtihnkijeefkefaaGreat

namespace Go.Proofs.YtihnkijeefkefaaGreat
open Go.RowKit

attribute [local go_sem] Program.isFuncB Program.isSliceB

variable {w w' w'' w0 : World}

end Go.Proofs.YtihnkijeefkefaaGreat

namespace Go.Proofs.YtihnkijeefkefaaGreat
open Go.RowKit

attribute [local go_sem] Program.isFuncB Program.isSliceB

variable {w w' w'' w0 : World}

theorem refwidth_ok (w : World) (c : Int) (h0 : c ≠ 108) : Calls Tryz.prog 215 #[.int .u8 c] w fun e w' => e = .returned (.int .i64 (widthOf c)) ∧ w = w' := by
  by_cases h1 : c = 105
  · subst h1
    clear h0
    go_enter Tryz.func215, Tryz.ntmps215
    go_wp2_with fail
    go_ret
    exact ⟨rfl, rfl⟩
  by_cases h2 : c = 102
  · subst h2
    clear h0 h1
    go_enter Tryz.func215, Tryz.ntmps215
    go_wp2_with fail
    go_ret
    exact ⟨rfl, rfl⟩
  by_cases h3 : c = 100
  · subst h3
    clear h0 h1 h2
    go_enter Tryz.func215, Tryz.ntmps215
    go_wp2_with fail
    go_ret
    exact ⟨rfl, rfl⟩
  by_cases h4 : c = 116
  · subst h4
    clear h0 h1 h2 h3
    go_enter Tryz.func215, Tryz.ntmps215
    go_wp2_with fail
    go_ret
    exact ⟨rfl, rfl⟩
  have HW : Hid (widthOf c = 1) := Lib.hid (by unfold widthOf; rw [if_neg h1, if_neg (by rintro (h | h | h) <;> contradiction)])
  have e1 : (c == 105) = false := by simpa using h1
  have e2 : (c == 102) = false := by simpa using h2
  have e3 : (c == 100) = false := by simpa using h3
  have e4 : (c == 116) = false := by simpa using h4
  have e5 : (c == 108) = false := by simpa using h0
  clear h0 h1 h2 h3 h4
  go_enter Tryz.func215, Tryz.ntmps215
  go_wp2_with fail
  go_ret
  exact ⟨by rw [HW.out]; rfl, rfl⟩

theorem register_ok (w : World) (c : Int) : Calls Tryz.prog 216 #[.int .u8 c] w fun e w' => e = .returned (.bool (regB c)) ∧ w = w' := by
  cases h1 : (c == 119)
  all_goals cases h2 : (c == 114)
  all_goals
    have HR : Hid (regB c = _) := Lib.hid (by unfold regB; rw [h1, h2])
    go_enter Tryz.func216, Tryz.ntmps216
    go_wp2_with fail
    go_ret
    exact ⟨by rw [HR.out]; rfl, rfl⟩

set_option maxHeartbeats 1000000 in
theorem field_ok (w : World) (o A B C N : Int) (u : Value) (c : Int) (k : Nat) (hk : k < 3) :
    Calls Tryz.prog 214 #[insV o A B C N u, .int .u8 c, .int .i64 k] w fun e w' => e = .returned (.int .i64 (fieldI A B C N c k)) ∧ Fr no w w' := by
  unfold insV
  have R0 := Lib.hid ((Fr.refl no w).alloc (.cells #[.int .i64 o, .int .i64 A, .int .i64 B, .int .i64 C, .int .i64 N, u] 112))
  have R1 := Lib.hid (R0.out.alloc (.cells #[.int .i64 A, .int .i64 B, .int .i64 C] 3))
  have HR := Lib.hid (fun w => register_ok w c)
  cases hreg : regB c with
  | false =>
    have HF : Hid (fieldI A B C N c k = N) := Lib.hid (by unfold fieldI; rw [hreg]; rfl)
    rw [hreg] at HR
    clear hreg
    go_enter Tryz.func214, Tryz.ntmps214
    go_wp2_with fail
    refine (HR.out _).mono ?_
    rintro e w' ⟨rfl, rfl⟩
    go_wp2_with fail
    go_ret
    exact ⟨by rw [HF.out]; rfl, R0.out⟩
  | true =>
    have HF : Hid (fieldI A B C N c k = [A, B, C].getD k 0) := Lib.hid (by unfold fieldI; rw [hreg]; rfl)
    rw [hreg] at HR
    clear hreg
    obtain rfl | rfl | rfl : k = 0 ∨ k = 1 ∨ k = 2 := by omega
    all_goals
      go_enter Tryz.func214, Tryz.ntmps214
      go_wp2_with fail
      refine (HR.out _).mono ?_
      rintro e w' ⟨rfl, rfl⟩
      go_wp2_with fail
      go_ret
      exact ⟨by rw [HF.out]; rfl, R1.out⟩

end Go.Proofs.YtihnkijeefkefaaGreat

namespace Go.Proofs.YtihnkijeefkefaaGreat
open Go.RowKit

attribute [local go_sem] Program.isFuncB Program.isSliceB

variable {w w' w'' w0 : World}

section
variable {wr wr' : World} {it k : Nat} {s : ByteArray} {cs : Array Value} {x x' : Value} {out new : List Nat}
end

end Go.Proofs.YtihnkijeefkefaaGreat

namespace Go.Proofs.YtihnkijeefkefaaGreat
open Go.RowKit

attribute [local go_sem] Program.isFuncB Program.isSliceB

variable {w w' w'' w0 : World}

end Go.Proofs.YtihnkijeefkefaaGreat

namespace Go.Proofs.YtihnkijeefkefaaGreat
open Go.RowKit

attribute [local go_sem] Program.isFuncB Program.isSliceB

variable {w w' w'' w0 : World}

section
variable {wr wr' : World} {cs : Array Value} {x x' : Value} {out new : List Nat}
end

/-- an instruction that can't be put -/
theorem refput_bad (w : World) (o A B C N : Int) (u : Value) (l : List Int) (hu : Reads w u 1 l.length (ints l)) (hl : l.length ≤ 100000) (hne : checkOf o A B C N l 64 4096 ≠ 0) :
    Calls Tryz.prog 194 #[insV o A B C N u] w fun e w' => e = .returned (.tuple #[.slice none 0 0, .int .i64 (checkOf o A B C N l 64 4096)]) ∧ Fr no w w' := by
  have HI := Lib.hid (insObj w o A B C N u)
  have r0 := (Fr.refl no w).alloc (.cells #[.int .i64 o, .int .i64 A, .int .i64 B, .int .i64 C, .int .i64 N, u] 112)
  have R0 := Lib.hid r0
  have HC := Lib.hid (refcheck_ok (w.alloc (.cells #[.int .i64 o, .int .i64 A, .int .i64 B, .int .i64 C, .int .i64 N, u] 112)) o A B C N 64 4096 u l (hu.fr r0 (by simp)) hl)
  have e1 : (checkOf o A B C N l 64 4096 != 0) = true := by simpa using hne
  generalize checkOf o A B C N l 64 4096 = ck at *
  clear r0 hu hne
  unfold insV at *
  go_enter Tryz.func194, Tryz.ntmps194
  go_wp2_with fail
  refine HC.out.mono ?_
  rintro e w1 ⟨rfl, r1⟩
  have R1 := Lib.hid (R0.out.trans r1)
  clear r1
  go_wp2_with fail
  go_ret2
  exact ⟨rfl, R1.out⟩

set_option maxRecDepth 100000 in
set_option maxHeartbeats 8000000 in
theorem refput_good (w : World) (o : Nat) (A B C N : Int) (u : Value) (l : List Int) (hu : Reads w u 1 l.length (ints l)) (hfine : Fine o A B C N l 64 4096) :
    Calls Tryz.prog 194 #[insV o A B C N u] w fun e w' => ∃ v, e = .returned (.tuple #[v, .int .i64 0]) ∧ w'.ownsRow (w.heap.size + 1) 5 1 v (enc o A B C N l).length (u8s (enc o A B C N l)) ∧ Fr no w w' := by
  have hl8 : l.length ≤ 8 := by have := hfine.few; omega
  have ho33 : o < 33 := by have := hfine.op.2; omega
  have r0 := (Fr.refl no w).alloc (.cells #[.int .i64 o, .int .i64 A, .int .i64 B, .int .i64 C, .int .i64 N, u] 112)
  have R0 := Lib.hid r0
  have HC := refcheck_ok (w.alloc (.cells #[.int .i64 o, .int .i64 A, .int .i64 B, .int .i64 C, .int .i64 N, u] 112)) o A B C N 64 4096 u l (hu.fr r0 (by simp)) (by omega)
  rw [(fine_iff _ _ _ _ _ _ _ _).2 hfine] at HC
  have HF := Lib.hid HC
  have HU := Lib.hid hu
  have HI0 := Lib.hid (insObj w o A B C N u)
  have HSH := Lib.hid (fun w => refshape_all w o)
  have hok := shape_ok o
  have hsz := hok.size
  have HEN := Lib.hid (show enc o A B C N l = (encSt o A B C N l (shapeI o).data.toList).1 from rfl)
  have HLB := Lib.hid (encSt_len o A B C N l hl8)
  have HFD := Lib.hid (fun w c k hk => field_ok w o A B C N u c k hk)
  have HARG : Hid (∀ z ∈ l, 0 ≤ z ∧ z < 64) := Lib.hid (fun z hz => by
    have h1 := hfine.all
    rw [List.any_eq_true] at h1
    have h2 : ¬ out1 64 z = true := fun h => h1 ⟨z, List.mem_append_right _ hz, h⟩
    simp [out1] at h2
    omega)
  obtain ⟨ua, uc, rfl⟩ := hu.shape
  clear HC hok hu r0 hfine
  generalize shapeI o = s at *
  unfold insV at *
  go_enter Tryz.func194, Tryz.ntmps194
  go_wp2_with fail
  refine HF.out.mono ?_
  rintro e w1 ⟨rfl, r1⟩
  have HI1 := Lib.hid (r1.heap HI0.out (by simp))
  have R1 := Lib.hid (R0.out.trans r1)
  have HZ1 := Lib.hid (show w.heap.size < w1.heap.size from (Array.getElem?_eq_some_iff.1 HI1.out).1)
  have r2 := (Fr.refl no w1).alloc (.cells #[.int .u8 o] 5)
  have HI2 := Lib.hid (r2.heap HI1.out (by simp))
  have R2 := Lib.hid (R1.out.trans r2)
  have HO2 := Lib.hid (owns_base (owns_row w1 [.int .u8 o] 5 (by simp)) (base' := w.heap.size + 1) (fun k hk => by have := HZ1.out; simp [Value.ownBlock] at hk; omega))
  obtain ⟨c0, c1, c2, c3, c4, c5⟩ := cells6 HI1.out
  obtain ⟨d0, d1, d2, d3, d4, d5⟩ := cells6 HI2.out
  clear r1 r2 HI0
  go_wp2_with fail
  refine (HSH.out _).mono ?_
  rintro e w' ⟨rfl, rfl⟩
  clear c0 c1 c2 c3 c4 c5 d0 d1 d2 d3 d4 d5
  go_wp2_with fail
  have HP0 : Hid (RS w (w1.alloc (.cells #[.int .u8 o] 5)) #[.int .i64 o, .int .i64 A, .int .i64 B, .int .i64 C, .int .i64 N, .slice ua l.length uc] (.slice (some ⟨w1.heap.size, 0, none⟩) 1 1) (encSt o A B C N l (s.data.toList.take 0)).1) := Lib.hid ⟨R2.out, HI2.out, HO2.out⟩
  generalize w1.alloc (.cells #[.int .u8 o] 5) = w4 at *
  go_loopw [5, 7, 8] (fun x y z wr => ∃ k : Nat, k ≤ s.size ∧ z = .int .i64 k ∧ y = .int .i64 ((encSt o A B C N l (s.data.toList.take k)).2 : Nat) ∧ Hid (RS w wr #[.int .i64 o, .int .i64 A, .int .i64 B, .int .i64 C, .int .i64 N, .slice ua l.length uc] x (encSt o A B C N l (s.data.toList.take k)).1)) (fun _ _ z _ => (s.size - intOf z).toNat)
  case atStart => exact ⟨0, by omega, rfl, rfl, HP0⟩
  case round =>
    obtain ⟨k, hk, rfl, rfl, hps⟩ := hrel
    obtain ⟨xa, xc, rfl⟩ := owns_shape hps.out.own
    by_cases hks : k < s.size
    · have hks' : (k : Int) < s.size := by omega
      have hlb := (HLB.out k (s.data.toList.take k) (blen_take s k hk))
      have HSN : Hid (encSt o A B C N l (s.data.toList.take (k + 1)) = stepE A B C N l (encSt o A B C N l (s.data.toList.take k)) (s[k]'hks)) := Lib.hid (by rw [btake_succ s k hks, encSt_snoc])
      generalize encSt o A B C N l (s.data.toList.take k) = st at *
      obtain ⟨out, kk⟩ := st
      dsimp only at hlb hps ⊢
      obtain ⟨hlo, hlk⟩ := hlb
      have HCI : Hid (∀ d : UInt8, ((s[k]'hks).toNat : Int) = d.toNat → s[k]'hks = d) := Lib.hid (fun d e => UInt8.toNat_inj.1 (by omega))
      by_cases h108 : s[k]'hks = 108
      · have e108 : (((s[k]'hks).toNat : Int) == 108) = true := by rw [h108]; rfl
        have HS2 : Hid (encSt o A B C N l (s.data.toList.take (k + 1)) = (out ++ (l.length :: l.map Int.toNat), kk)) := Lib.hid (by rw [HSN.out]; unfold stepE; rw [if_pos h108])
        clear h108
        have r6 := (Fr.refl no wr).alloc (.cells #[.int .u8 l.length] 5)
        have HP6 := Lib.hid (hps.out.to r6)
        obtain ⟨c0, c1, c2, c3, c4, c5⟩ := cells6 hps.out.ins
        clear r6
        obtain ⟨wz, hwz⟩ : ∃ x, x = wr := ⟨_, rfl⟩
        subst hwz
        go_wp2_with (at_builtin; (refine wpList_append_at rfl (.tmp 34) _ 22 rfl (w.heap.size + 1) 5 (.int .u8 0) 1 1 Tryz.underlying22 Tryz.infoU8 rfl (by decide) _ out.length _ rfl HP6.out.own 1 [.int .u8 (l.length : Nat)] (reads_one _ _ _) int_one (by unfold maxLen; omega) (by omega) HP6.out.size ?_); intro ga gc w6 ho hg hb)
        have HP7 : Hid (RS w w6 #[.int .i64 o, .int .i64 A, .int .i64 B, .int .i64 C, .int .i64 N, .slice ua l.length uc] (.slice ga (out.length + 1) gc) (out ++ [l.length])) := Lib.hid (HP6.out.app (new := [l.length]) ho hg)
        clear ho hg hb c0 c1 c2 c3 c4 c5
        have hoL : out.length + 1 = (out ++ [l.length]).length := by simp
        rw [hoL]
        clear hoL
        have HP8 : Hid (RS w w6 #[.int .i64 o, .int .i64 A, .int .i64 B, .int .i64 C, .int .i64 N, .slice ua l.length uc] (.slice ga (out ++ [l.length]).length gc) (out ++ [l.length] ++ (l.take 0).map Int.toNat)) := Lib.hid (by simpa using HP7.out)
        have HEQ : Hid (out ++ (l.length :: l.map Int.toNat) = out ++ [l.length] ++ l.map Int.toNat) := Lib.hid (by simp)
        rw [HEQ.out] at HS2
        have hlq : (out ++ [l.length]).length ≤ 40 := by simp; omega
        clear hlo
        generalize out ++ [l.length] = oq at *
        go_loopw [5, 9] (fun x y wr => ∃ j : Nat, j ≤ l.length ∧ y = .int .i64 j ∧ Hid (RS w wr #[.int .i64 o, .int .i64 A, .int .i64 B, .int .i64 C, .int .i64 N, .slice ua l.length uc] x (oq ++ (l.take j).map Int.toNat))) (fun _ y _ => (l.length - intOf y).toNat)
        case atStart => exact ⟨0, by omega, rfl, HP8⟩
        case round =>
          obtain ⟨j, hj, rfl, hps⟩ := hrel
          obtain ⟨ya, yc, rfl⟩ := owns_shape hps.out.own
          have hlen : (oq ++ (l.take j).map Int.toNat).length = oq.length + j := by simp; omega
          have HLN := Lib.hid hlen
          rw [hlen]
          obtain ⟨c0, c1, c2, c3, c4, c5⟩ := cells6 hps.out.ins
          by_cases hjl : j < l.length
          · have hjl' : (j : Int) < l.length := by omega
            obtain ⟨b, o1, rfl, ci⟩ := reads_int (HU.out.fr hps.out.fr (by simp)) hjl
            have hbd := HARG.out l[j] (List.getElem_mem _)
            have HT : Hid ((l.take (j + 1)).map Int.toNat = (l.take j).map Int.toNat ++ [l[j].toNat]) := Lib.hid (by rw [List.take_succ_eq_append_getElem hjl, List.map_append]; rfl)
            generalize l[j] = z at *
            obtain ⟨zn, rfl⟩ : ∃ zn : Nat, z = zn := ⟨z.toNat, by omega⟩
            have HT2 : Hid ((l.take (j + 1)).map Int.toNat = (l.take j).map Int.toNat ++ [zn]) := Lib.hid (by rw [HT.out]; simp)
            have r9 := (Fr.refl no wr).alloc (.cells #[.int .u8 zn] 5)
            have HP9 := Lib.hid (hps.out.to r9)
            have hz256 : zn < 256 := by omega
            clear r9 hbd HT hlen
            go_wp2_with (at_builtin; (refine wpList_append_at rfl (.tmp 48) _ 22 rfl (w.heap.size + 1) 5 (.int .u8 0) 1 1 Tryz.underlying22 Tryz.infoU8 rfl (by decide) _ (oq.length + j) _ rfl (by have := HP9.out.own; rw [HLN.out] at this; exact this) 1 [.int .u8 (zn : Nat)] (reads_one _ _ _) int_one (by unfold maxLen; omega) (by omega) HP9.out.size ?_); intro gd ge w8 ho hg hb)
            have HPX : Hid (RS w w8 #[.int .i64 o, .int .i64 A, .int .i64 B, .int .i64 C, .int .i64 N, .slice (some ⟨b, o1, none⟩) l.length uc] (.slice gd (oq.length + j + 1) ge) (oq ++ (l.take (j + 1)).map Int.toNat)) := Lib.hid (by
              have hps9 := HP9.out
              have := hps9.app (new := [zn]) (x' := .slice gd (oq.length + j + 1) ge) (by rw [HLN.out]; exact ho) (by rw [HLN.out]; exact hg)
              rw [HT2.out, ← List.append_assoc]
              exact this)
            clear ho hg hb ci
            go_roundw
            case rel => exact ⟨j + 1, by omega, by go_num, HPX⟩
            case measure => first | (simp [intOf]; done) | (simp [intOf]; omega)
          · obtain rfl : j = l.length := by omega
            have HF2 : Hid (RS w wr #[.int .i64 o, .int .i64 A, .int .i64 B, .int .i64 C, .int .i64 N, .slice ua l.length uc] (.slice ya (oq.length + l.length) yc) (oq ++ l.map Int.toNat)) := Lib.hid (by have := hps.out; rw [HLN.out] at this; rw [List.take_length] at this; exact this)
            clear hlen
            go_wp2_with fail
            go_roundw
            case rel => exact ⟨k + 1, by omega, by go_num, by rw [HS2.out], by rw [HS2.out]; exact HF2⟩
            case measure => first | (simp [intOf]; done) | (simp [intOf]; omega)
      · have e108 : (((s[k]'hks).toNat : Int) == 108) = false := by rw [beq_eq_false_iff_ne]; exact fun e => h108 (HCI.out 108 e)
        have HS2 : Hid (encSt o A B C N l (s.data.toList.take (k + 1)) = (out ++ le (toU (fieldI A B C N (s[k]'hks).toNat kk)) (widthOf (s[k]'hks).toNat), if regB (s[k]'hks).toNat = true then kk + 1 else kk)) := Lib.hid (by rw [HSN.out]; unfold stepE; rw [if_neg h108])
        have hkk3 : kk < 3 := by omega
        have HFL := Lib.hid (fun w1 => HFD.out w1 (((s[k]'hks).toNat : Nat) : Int) kk hkk3)
        have HWD := Lib.hid (fun w1 => refwidth_ok w1 (((s[k]'hks).toNat : Nat) : Int) (fun e => h108 (HCI.out 108 e)))
        have HRG := Lib.hid (fun w1 => register_ok w1 (((s[k]'hks).toNat : Nat) : Int))
        clear h108
        have hwn := widthOf_is (((s[k]'hks).toNat : Nat) : Int)
        generalize fieldI A B C N (((s[k]'hks).toNat : Nat) : Int) kk = fv at *
        generalize widthOf (((s[k]'hks).toNat : Nat) : Int) = wn at *
        have hu64 : IntKind.u64.wrap fv = ((toU fv : Nat) : Int) := by
          rw [IntKind.wrap_u64]; unfold toU; omega
        have HWP := Lib.hid (fun w1 => refput_ok w1 (toU fv) wn (toU_lt fv) (by omega))
        have HLE : Hid ((le (toU fv) wn).length = wn) := Lib.hid (le_len _ _)
        generalize toU fv = uf at *
        generalize regB (((s[k]'hks).toNat : Nat) : Int) = rb at *
        have HP5 := Lib.hid (hps.out.to ((Fr.refl no _).drew))
        go_wp2_with fail
        refine Lex.region [5, 10, 11] [17] (by kernel_rfl) (by kernel_rfl) ?_
        refine Lex.opens (fun w' => w'.heap[w.heap.size]? = some (.cells #[.int .i64 o, .int .i64 A, .int .i64 B, .int .i64 C, .int .i64 N, .slice ua l.length uc] 112 (0, 0))) (HP5.out.ins) ?_
        repeat (first
          | (refine Lex.skips (by rfl) ?_; (try simp only [Act.put, List.setIfInBounds_toArray, List.set_cons_zero, List.set_cons_succ]))
          | (refine Lex.row (by rfl) (by rfl) _ _ rfl _ rfl _ _ _ _ ((fun w' h => h)) Tryz.underlying112 rfl (by rw [Tryz.infoIns]; rfl) ?_; (try simp only [Act.put, List.setIfInBounds_toArray, List.set_cons_zero, List.set_cons_succ]))
          | (refine Lex.quiet (v := ?_) (by rfl) (by rfl) ?_ ?_; rotate_left; (focus (intro w' hS'; go_simp; try rfl)); (try simp only [Act.put, List.setIfInBounds_toArray, List.set_cons_zero, List.set_cons_succ])))
        refine Lex.loud (by rfl) (by rfl) ?_
        intro K' hK'
        go_simp
        refine (HFL.out _).mono ?_
        rintro e w6 ⟨rfl, r6⟩
        have HP6 := Lib.hid (HP5.out.to r6)
        clear r6
        refine hK' _ _ (HP6.out.ins) ?_
        clear hK'
        try simp only [Act.put, List.setIfInBounds_toArray, List.set_cons_zero, List.set_cons_succ]
        repeat (first
          | (refine Lex.skips (by rfl) ?_; (try simp only [Act.put, List.setIfInBounds_toArray, List.set_cons_zero, List.set_cons_succ]))
          | (refine Lex.quiet (v := ?_) (by rfl) (by rfl) ?_ ?_; rotate_left; (focus (intro w' hS'; go_simp; try rfl)); (try simp only [Act.put, List.setIfInBounds_toArray, List.set_cons_zero, List.set_cons_succ])))
        refine Lex.loud (by rfl) (by rfl) ?_
        intro K' hK'
        go_simp
        refine (HWD.out _).mono ?_
        rintro e w' ⟨rfl, rfl⟩
        refine hK' _ _ (HP6.out.ins) ?_
        clear hK'
        try simp only [Act.put, List.setIfInBounds_toArray, List.set_cons_zero, List.set_cons_succ]
        repeat (first
          | (refine Lex.skips (by rfl) ?_; (try simp only [Act.put, List.setIfInBounds_toArray, List.set_cons_zero, List.set_cons_succ]))
          | (refine Lex.quiet (v := ?_) (by rfl) (by rfl) ?_ ?_; rotate_left; (focus (intro w' hS'; go_simp; try rfl)); (try simp only [Act.put, List.setIfInBounds_toArray, List.set_cons_zero, List.set_cons_succ])))
        refine Lex.loud (by rfl) (by rfl) ?_
        intro K' hK'
        go_simp
        refine (HWP.out _).mono ?_
        rintro e w7 ⟨bv, rfl, hbo, r7⟩
        have HP7 := Lib.hid (HP6.out.to r7)
        have HBR := Lib.hid (owns_reads hbo)
        obtain ⟨ba, bc, rfl⟩ := owns_shape hbo
        clear r7 hbo
        refine hK' _ _ (HP7.out.ins) ?_
        clear hK'
        try simp only [Act.put, List.setIfInBounds_toArray, List.set_cons_zero, List.set_cons_succ]
        repeat (first
          | (refine Lex.skips (by rfl) ?_; (try simp only [Act.put, List.setIfInBounds_toArray, List.set_cons_zero, List.set_cons_succ]))
          | (refine Lex.quiet (v := ?_) (by rfl) (by rfl) ?_ ?_; rotate_left; (focus (intro w' hS'; go_simp; try rfl)); (try simp only [Act.put, List.setIfInBounds_toArray, List.set_cons_zero, List.set_cons_succ])))
        refine Lex.done ?_
        refine Lex.ends ?_
        cases rb
        all_goals
          go_wp2_with (at_builtin; (refine wpList_append_at rfl (.tmp 72) _ 22 rfl (w.heap.size + 1) 5 (.int .u8 0) 1 1 Tryz.underlying22 Tryz.infoU8 rfl (by decide) _ out.length _ rfl HP7.out.own wn _ HBR.out (u8s_one _) (by unfold maxLen; omega) (by omega) HP7.out.size ?_); intro gd ge w8 ho hg hb)
          have HPX : Hid (RS w w8 #[.int .i64 o, .int .i64 A, .int .i64 B, .int .i64 C, .int .i64 N, .slice ua l.length uc] (.slice gd (out.length + wn) ge) (out ++ le uf wn)) := Lib.hid (HP7.out.app (new := le uf wn) (by rw [HLE.out]; exact ho) hg)
          clear ho hg hb
          refine (HRG.out _).mono ?_
          rintro e w' ⟨rfl, rfl⟩
          go_wp2_with fail
          go_roundw
          case rel => exact ⟨k + 1, by omega, by go_num, by rw [HS2.out]; first | rfl | go_num, by rw [HS2.out]; exact HPX⟩
          case measure => first | (simp [intOf]; done) | (simp [intOf]; omega)
    · obtain rfl : k = s.size := by omega
      have hall : s.data.toList.take s.size = s.data.toList := by rw [← blen, List.take_length]
      have HQ : Hid (wr.ownsRow (w.heap.size + 1) 5 1 (.slice xa (encSt o A B C N l (s.data.toList.take s.size)).1.length xc) (enc o A B C N l).length (u8s (enc o A B C N l))) := Lib.hid (by have := hps.out.own; rw [HEN.out]; simp only [hall] at this ⊢; exact this)
      clear hall
      go_wp2_with fail
      go_ret2
      exact ⟨_, rfl, HQ.out, hps.out.fr⟩

end Go.Proofs.YtihnkijeefkefaaGreat

namespace Go.Proofs.YtihnkijeefkefaaGreat
open Go.RowKit

attribute [local go_sem] Program.isFuncB Program.isSliceB

variable {w w' w'' w0 : World}

theorem refput_any (w : World) (i : Ix) (u : Value) (hu : Reads w u 1 i.l.length (ints i.l)) (hl : i.l.length ≤ 100000) :
    Calls Tryz.prog 194 #[insV i.o i.A i.B i.C i.N u] w fun e w' => ∃ v, e = .returned (.tuple #[v, .int .i64 (ckOf i)]) ∧ w'.ownsRow w.heap.size 5 1 v (encE i).length (u8s (encE i)) ∧ Fr no w w' := by
  by_cases h : ckOf i = 0
  · have hf := (fine_iff _ _ _ _ _ _ _ _).1 h
    obtain ⟨o, ho⟩ : ∃ o : Nat, i.o = o := ⟨i.o.toNat, by have := hf.op.1; omega⟩
    have hE : encE i = enc i.o i.A i.B i.C i.N i.l := by unfold encE; rw [if_pos h]
    rw [hE, h, ho]
    rw [ho] at hf
    refine (refput_good w o i.A i.B i.C i.N u i.l hu hf).mono ?_
    rintro e w' ⟨v, he, h1, h2⟩
    exact ⟨v, he, owns_base h1 (fun k hk => by have := (h1.lt k hk).1; omega), h2⟩
  · have hE : encE i = [] := by unfold encE; rw [if_neg h]
    rw [hE]
    refine (refput_bad w i.o i.A i.B i.C i.N u i.l hu hl h).mono ?_
    rintro e w' ⟨he, h2⟩
    exact ⟨_, he, World.ownsRow_nil _ _ _ _, h2⟩

end Go.Proofs.YtihnkijeefkefaaGreat

namespace Go.Proofs.YtihnkijeefkefaaGreat
open Go.RowKit

attribute [local go_sem] Program.isFuncB Program.isSliceB

variable {w w' w'' w0 : World}

set_option maxHeartbeats 4000000 in
theorem refjoin_ok (w : World) (sa : Option Addr) (c : Nat) (is : List Ix) (hin : CodeIn w sa is) (hlen : is.length ≤ 1000) (hargs : ∀ i ∈ is, i.l.length ≤ 1000) :
    Calls Tryz.prog 173 #[.slice sa is.length c] w fun e w' => ∃ v, e = .returned (.tuple #[v, .int .i64 (joinCk is)]) ∧ w'.ownsRow w.heap.size 5 1 v (joinB is).length (u8s (joinB is)) ∧ Fr no w w' := by
  have HIN := Lib.hid hin
  have HAR := Lib.hid hargs
  have HBL := Lib.hid (bytesOf_len)
  clear hin hargs
  go_enter Tryz.func173, Tryz.ntmps173
  go_wp2_with fail
  go_loopw [4, 5] (fun x y wr => ∃ k : Nat, k ≤ is.length ∧ y = .int .i64 k ∧ Hid (∀ j (_ : j < k) (h : j < is.length), ckOf is[j] = 0) ∧ Hid (wr.ownsRow w.heap.size 5 1 x (bytesOf (is.take k)).length (u8s (bytesOf (is.take k)))) ∧ Hid (Fr no w wr)) (fun _ y _ => (is.length - intOf y).toNat)
  case atStart => exact ⟨0, by omega, rfl, Lib.hid (fun j h _ => by omega), Lib.hid (World.ownsRow_nil _ _ _ _), Lib.hid (Fr.refl _ _)⟩
  case round =>
    obtain ⟨k, hk, rfl, hpre, hown, hfr⟩ := hrel
    obtain ⟨xa, xc, rfl⟩ := owns_shape hown.out
    have hbl := HBL.out (is.take k)
    rw [List.length_take, Nat.min_eq_left hk] at hbl
    by_cases hks : k < is.length
    · have hks' : (k : Int) < is.length := by omega
      obtain ⟨b, of, u, rfl, hi⟩ := HIN.out.fr hfr.out k hks
      obtain ⟨ua, uc, rfl⟩ := hi.args.shape
      obtain ⟨c0, c1, c2, c3, c4, c5⟩ := hi.six
      have HARG := Lib.hid hi.args
      have hal := HAR.out is[k] (List.getElem_mem _)
      have HSN : Hid (bytesOf (is.take (k + 1)) = bytesOf (is.take k) ++ encE is[k]) := Lib.hid (by rw [List.take_succ_eq_append_getElem hks, bytesOf_snoc])
      have hel := encE_len is[k]
      have HPP := Lib.hid (fun w1 (h : Fr no wr w1) => refput_any w1 is[k] _ (hi.args.fr h (by simp)) (by omega))
      have HBAD : Hid (ckOf is[k] ≠ 0 → joinCk is = ckOf is[k] ∧ joinB is = []) := Lib.hid (fun h => by
        have := joinCk_bad is k hks hpre.out h
        refine ⟨this, ?_⟩
        unfold joinB
        rw [if_neg (by rw [this]; exact h)])
      have HPRE : Hid (ckOf is[k] = 0 → ∀ j (_ : j < k + 1) (h : j < is.length), ckOf is[j] = 0) := Lib.hid (fun h0 j hj h => by
        by_cases he : j = k
        · subst he; exact h0
        · exact hpre.out j (by omega) h)
      generalize ckOf is[k] = ck at *
      generalize encE is[k] = en at *
      generalize is[k] = ix at *
      clear hi
      obtain ⟨io, iA, iB, iC, iN, il⟩ := ix
      dsimp only at c0 c1 c2 c3 c4 c5 hal HARG HPP
      unfold insV at HPP
      generalize bytesOf (is.take k) = bs at *
      have R5 := hfr
      have HO5 := hown
      have HP5 := Lib.hid (HPP.out _ (Fr.refl no wr))
      by_cases hck : ck = 0
      · have e1 : (ck != 0) = false := by simpa using hck
        have HPR := Lib.hid (HPRE.out hck)
        clear hck
        go_wp2_with fail
        refine (HP5.out).mono ?_
        rintro e w6 ⟨v, rfl, hv, r6⟩
        obtain ⟨va, vc, rfl⟩ := owns_shape hv
        have R6 := Lib.hid (R5.out.trans r6)
        have HO6 := Lib.hid (owns_fr HO5.out r6 (by simp))
        have HV6 := Lib.hid (owns_reads hv)
        clear r6 hv c0 c1 c2 c3 c4 c5
        go_wp2_with (at_builtin; (refine wpList_append_at rfl (.tmp 25) _ 22 rfl w.heap.size 5 (.int .u8 0) 1 1 Tryz.underlying22 Tryz.infoU8 rfl (by decide) _ bs.length _ rfl HO6.out en.length _ HV6.out (u8s_one _) (by unfold maxLen; omega) (by omega) R6.out.size ?_); intro ga gc w7 ho hg hb)
        have HO7 : Hid (w7.ownsRow w.heap.size 5 1 (.slice ga (bs.length + en.length) gc) (bytesOf (is.take (k + 1))).length (u8s (bytesOf (is.take (k + 1))))) := Lib.hid (by rw [HSN.out, List.length_append, show u8s (bs ++ en) = u8s bs ++ u8s en from by simp [u8s]]; exact ho)
        have R7 := Lib.hid (R6.out.trans' ((Fr.refl (fun k => (Value.slice xa bs.length xc).ownBlock = some k) _).grown hg (fun k hk => .inl hk)) (fun k hk _ => (hown.out.lt k hk).1))
        clear ho hg hb
        go_roundw
        case rel => exact ⟨k + 1, by omega, by go_num, HPR, HO7, R7⟩
        case measure => first | (simp [intOf]; done) | (simp [intOf]; omega)
      · have e1 : (ck != 0) = true := by simpa using hck
        have HB := Lib.hid (HBAD.out hck)
        clear hck
        go_wp2_with fail
        refine (HP5.out).mono ?_
        rintro e w6 ⟨v, rfl, hv, r6⟩
        obtain ⟨va, vc, rfl⟩ := owns_shape hv
        have R6 := Lib.hid (R5.out.trans r6)
        clear r6 hv c0 c1 c2 c3 c4 c5
        go_wp2_with fail
        go_ret2
        exact ⟨_, by rw [HB.out.1]; rfl, by rw [HB.out.2]; exact World.ownsRow_nil _ _ _ _, R6.out⟩
    · obtain rfl : k = is.length := by omega
      have HJ : Hid (joinCk is = if 4096 < (bytesOf is).length then 3 else 0) := Lib.hid (joinCk_good is (fun i hi => by
        obtain ⟨j, hj, rfl⟩ := List.getElem_of_mem hi
        exact hpre.out j hj hj))
      have HJB : Hid (joinB is = if joinCk is = 0 then bytesOf is else []) := Lib.hid rfl
      have hown2 := hown.out
      rw [List.take_length] at hown2 ⊢
      have HO2 := Lib.hid hown2
      clear hown2 hown hbl
      generalize bytesOf is = bs at *
      by_cases h4 : 4096 < bs.length
      · have h4' : (4096 : Int) < bs.length := by omega
        have HJ2 : Hid (joinCk is = 3 ∧ joinB is = []) := Lib.hid (by
          have : joinCk is = 3 := by rw [HJ.out, if_pos h4]
          exact ⟨this, by rw [HJB.out, if_neg (by rw [this]; decide)]⟩)
        go_wp2_with fail
        go_ret2
        exact ⟨_, by rw [HJ2.out.1]; rfl, by rw [HJ2.out.2]; exact World.ownsRow_nil _ _ _ _, hfr.out⟩
      · have h4' : ¬ (4096 : Int) < bs.length := by omega
        have HJ2 : Hid (joinCk is = 0 ∧ joinB is = bs) := Lib.hid (by
          have : joinCk is = 0 := by rw [HJ.out, if_neg h4]
          exact ⟨this, by rw [HJB.out, if_pos this]⟩)
        go_wp2_with fail
        go_ret2
        exact ⟨_, by rw [HJ2.out.1]; rfl, by rw [HJ2.out.2]; exact HO2.out, hfr.out⟩

end Go.Proofs.YtihnkijeefkefaaGreat

namespace Go.Proofs.YtihnkijeefkefaaGreat
open Go.RowKit

attribute [local go_sem] Program.isFuncB Program.isSliceB

variable {w w' w'' w0 : World}

end Go.Proofs.YtihnkijeefkefaaGreat

namespace Go.Proofs.YtihnkijeefkefaaGreat

end Go.Proofs.YtihnkijeefkefaaGreat

namespace Go.Proofs.YtihnkijeefkefaaGreat

end Go.Proofs.YtihnkijeefkefaaGreat

namespace Go.Proofs.YtihnkijeefkefaaGreat

end Go.Proofs.YtihnkijeefkefaaGreat

namespace Go.Proofs.YtihnkijeefkefaaGreat
open Go.RowKit

attribute [local go_sem] Program.isFuncB Program.isSliceB

variable {w w' w'' w0 : World}

end Go.Proofs.YtihnkijeefkefaaGreat

namespace Go.Proofs.YtihnkijeefkefaaGreat
open Go.RowKit

attribute [local go_sem] Program.isFuncB Program.isSliceB

variable {w w' w'' w0 : World}

end Go.Proofs.YtihnkijeefkefaaGreat

namespace Go.Proofs.YtihnkijeefkefaaGreat
open Go.RowKit

attribute [local go_sem] Program.isFuncB Program.isSliceB

variable {w w' w'' w0 : World}

end Go.Proofs.YtihnkijeefkefaaGreat

namespace Go.Proofs.YtihnkijeefkefaaGreat
open Go.RowKit

attribute [local go_sem] Program.isFuncB Program.isSliceB

variable {w w' w'' w0 : World}

set_option maxHeartbeats 8000000 in
theorem reffn_ok (w : World) (f : Fx) (ca : Option Addr) (cc : Nat) (hc : CodeIn w ca f.c) (hs : f.Small) :
    Calls Tryz.prog 135 #[.agg #[.int .i64 f.p, .int .i64 f.r, .int .i64 f.a, .slice ca f.c.length cc]] w fun e w' => e = .returned (.int .i64 (fnCk f)) ∧ Fr no w w' := by
  obtain ⟨p, r, a, is⟩ := f
  obtain ⟨hs1, hs2⟩ := hs
  dsimp only at hc hs1 hs2 ⊢
  have HC := Lib.hid hc
  have HI := Lib.hid (fnObj w p r a (.slice ca is.length cc))
  have r0 := (Fr.refl no w).alloc (.cells #[.int .i64 p, .int .i64 r, .int .i64 a, .slice ca is.length cc] 41)
  have R0 := Lib.hid r0
  have HJ := Lib.hid (refjoin_ok (w.alloc (.cells #[.int .i64 p, .int .i64 r, .int .i64 a, .slice ca is.length cc] 41)) ca cc is (hc.fr r0) hs1 hs2)
  have HAR := Lib.hid hs2
  have HCK : Hid (fnCk ⟨p, r, a, is⟩ = if numBad p r a then 2 else if joinCk is ≠ 0 then joinCk is else opsCk is r a) := Lib.hid rfl
  have HNB : Hid (numBad p r a = decide (p < 0 ∨ 8 < p ∨ r < p ∨ 64 < r ∨ a < 0 ∨ 4096 < a)) := Lib.hid rfl
  generalize numBad p r a = nb at *
  generalize fnCk ⟨p, r, a, is⟩ = ck at *
  clear r0 hc hs2
  go_enter Tryz.func135, Tryz.ntmps135
  obtain ⟨c0, c1, c2, c3⟩ := cells4 HI.out
  by_cases h1 : p < 0
  · have HB : Hid (ck = 2) := Lib.hid (by rw [HCK.out, HNB.out, decide_eq_true (by omega)]; rfl)
    go_wp2_with fail
    go_ret
    exact ⟨by rw [HB.out]; rfl, R0.out⟩
  by_cases h2 : 8 < p
  · have HB : Hid (ck = 2) := Lib.hid (by rw [HCK.out, HNB.out, decide_eq_true (by omega)]; rfl)
    go_wp2_with fail
    go_ret
    exact ⟨by rw [HB.out]; rfl, R0.out⟩
  by_cases h3 : r < p
  · have HB : Hid (ck = 2) := Lib.hid (by rw [HCK.out, HNB.out, decide_eq_true (by omega)]; rfl)
    go_wp2_with fail
    go_ret
    exact ⟨by rw [HB.out]; rfl, R0.out⟩
  have h3' : p ≤ r := by omega
  have h3d : decide (r < p) = false := decide_eq_false h3
  by_cases h4 : 64 < r
  · have HB : Hid (ck = 2) := Lib.hid (by rw [HCK.out, HNB.out, decide_eq_true (by omega)]; rfl)
    go_wp2_with fail
    go_ret
    exact ⟨by rw [HB.out]; rfl, R0.out⟩
  by_cases h5 : a < 0
  · have HB : Hid (ck = 2) := Lib.hid (by rw [HCK.out, HNB.out, decide_eq_true (by omega)]; rfl)
    go_wp2_with fail
    go_ret
    exact ⟨by rw [HB.out]; rfl, R0.out⟩
  by_cases h6 : 4096 < a
  · have HB : Hid (ck = 2) := Lib.hid (by rw [HCK.out, HNB.out, decide_eq_true (by omega)]; rfl)
    go_wp2_with fail
    go_ret
    exact ⟨by rw [HB.out]; rfl, R0.out⟩
  have HN : Hid (ck = if joinCk is ≠ 0 then joinCk is else opsCk is r a) := Lib.hid (by
    rw [HCK.out, HNB.out, decide_eq_false (by omega)]; rfl)
  clear HCK HNB
  generalize joinCk is = jc at *
  go_wp2_with fail
  refine HJ.out.mono ?_
  rintro e w2 ⟨v, rfl, hv, r2⟩
  obtain ⟨va, vc, rfl⟩ := owns_shape hv
  have R2 := Lib.hid (R0.out.trans r2)
  have HI2 := Lib.hid (r2.heap HI.out (by simp))
  have HC2 := Lib.hid (HC.out.fr R2.out)
  clear r2 hv c0 c1 c2 c3 HI HJ HC R0 h1 h2 h3 h3' h3d h4 h5 h6
  obtain ⟨c0, c1, c2, c3⟩ := cells4 HI2.out
  by_cases hj : jc = 0
  case neg =>
    have e1 : (jc != 0) = true := by simpa using hj
    have HB : Hid (ck = jc) := Lib.hid (by rw [HN.out, if_pos hj])
    clear hj
    go_wp2_with fail
    go_ret
    exact ⟨by rw [HB.out] <;> rfl, R2.out⟩
  have e1 : (jc != 0) = false := by simpa using hj
  have HN2 : Hid (ck = opsCk is r a) := Lib.hid (by rw [HN.out, if_neg (by simpa using hj)])
  clear hj HN
  go_wp2_with fail
  go_loopw [5] (fun x wr => ∃ k : Nat, k ≤ is.length ∧ x = .int .i64 k ∧ Hid (∀ j (_ : j < k) (h : j < is.length), ckIn is[j] r a = 0) ∧ Hid (Fr no w2 wr)) (fun x _ => (is.length - intOf x).toNat)
  case atStart => exact ⟨0, by omega, rfl, Lib.hid (fun j h _ => by omega), Lib.hid (Fr.refl _ _)⟩
  case round =>
    obtain ⟨k, hk, rfl, hpre, hfr⟩ := hrel
    have HI3 := Lib.hid (hfr.out.heap HI2.out (by simp))
    clear c0 c1 c2 c3
    obtain ⟨c0, c1, c2, c3⟩ := cells4 HI3.out
    by_cases hks : k < is.length
    · have hks' : (k : Int) < is.length := by omega
      obtain ⟨b, of, u, rfl, hi⟩ := HC2.out.fr hfr.out k hks
      obtain ⟨ua, uc, rfl⟩ := hi.args.shape
      obtain ⟨d0, d1, d2, d3, d4, d5⟩ := hi.six
      have hal := HAR.out is[k] (List.getElem_mem _)
      have HPP := Lib.hid (fun w1 (h : Fr no wr w1) => refcheck_ok w1 is[k].o is[k].A is[k].B is[k].C is[k].N r a _ is[k].l (hi.args.fr h (by simp)) (by omega))
      have A1 := Lib.hid (At.fr hi.cell (Fr.refl no wr).drew)
      have HBAD : Hid (ckIn is[k] r a ≠ 0 → opsCk is r a = ckIn is[k] r a) := Lib.hid (fun h => find_bad (fun i => ckIn i r a) is k hks hpre.out h)
      have HPRE : Hid (ckIn is[k] r a = 0 → ∀ j (_ : j < k + 1) (h : j < is.length), ckIn is[j] r a = 0) := Lib.hid (fun h0 j hj h => by
        by_cases he : j = k
        · subst he; exact h0
        · exact hpre.out j (by omega) h)
      have HEQ : Hid (checkOf is[k].o is[k].A is[k].B is[k].C is[k].N is[k].l r a = ckIn is[k] r a) := Lib.hid rfl
      rw [HEQ.out] at HPP
      clear HEQ
      generalize ckIn is[k] r a = qk at *
      generalize is[k] = ix at *
      clear hi
      obtain ⟨io, iA, iB, iC, iN, il⟩ := ix
      unfold Ix.cells at A1
      dsimp only at A1 hal HPP
      unfold insV at HPP
      have HP5 := Lib.hid (HPP.out _ (Fr.refl no wr).drew)
      have e3 := (Fr.refl no wr).drew.cell c3 (by simp)
      have e1' := (Fr.refl no wr).drew.cell c1 (by simp)
      have e2' := (Fr.refl no wr).drew.cell c2 (by simp)
      clear HPP d0 d1 d2 d3 d4 d5
      go_upto_region 9 with fail
      refine Lex.region [9] [11] (by kernel_rfl) (by kernel_rfl) ?_
      refine Lex.opens (fun w' => At w' b (of + k * 6) [.int .i64 io, .int .i64 iA, .int .i64 iB, .int .i64 iC, .int .i64 iN, .slice ua il.length uc] ∧ w'.cell? ⟨w.heap.size, 1, none⟩ = some (.int .i64 r) ∧ w'.cell? ⟨w.heap.size, 2, none⟩ = some (.int .i64 a) ∧ w'.cell? ⟨w.heap.size, 3, none⟩ = some (.slice (some ⟨b, of, none⟩) is.length cc)) (⟨A1.out, e1', e2', e3⟩) ?_
      repeat (first
        | (refine Lex.skips (by rfl) ?_; (try simp only [Act.put, List.setIfInBounds_toArray, List.set_cons_zero, List.set_cons_succ]))
        | (refine Lex.into (by rfl) (by rfl) _ _ rfl _ _ rfl _ _ (fun w' h => h.1) Tryz.underlying112 rfl (by rw [Tryz.infoIns]; rfl) ?_; (try simp only [Act.put, List.setIfInBounds_toArray, List.set_cons_zero, List.set_cons_succ]))
        | (refine Lex.quiet (v := ?_) (by rfl) (by rfl) ?_ ?_; rotate_left; (focus (intro w' hS'; go_simp; try rfl)); (try simp only [Act.put, List.setIfInBounds_toArray, List.set_cons_zero, List.set_cons_succ])))
      refine Lex.loud (by rfl) (by rfl) ?_
      intro K' hK'
      go_simp
      refine HP5.out.mono ?_
      rintro e w6 ⟨rfl, r6⟩
      have R6 := Lib.hid (hfr.out.trans ((Fr.refl no wr).drew.trans r6))
      have A2 := Lib.hid (A1.out.fr r6)
      have f1 := r6.cell e1' (by simp)
      have f2 := r6.cell e2' (by simp)
      have f3 := r6.cell e3 (by simp)
      clear r6 c0 c1 c2 c3 e1' e2' e3
      refine hK' _ _ (⟨A2.out, f1, f2, f3⟩) ?_
      clear hK'
      try simp only [Act.put, List.setIfInBounds_toArray, List.set_cons_zero, List.set_cons_succ]
      repeat (first
        | (refine Lex.skips (by rfl) ?_; (try simp only [Act.put, List.setIfInBounds_toArray, List.set_cons_zero, List.set_cons_succ]))
        | (refine Lex.quiet (v := ?_) (by rfl) (by rfl) ?_ ?_; rotate_left; (focus (intro w' hS'; go_simp; try rfl)); (try simp only [Act.put, List.setIfInBounds_toArray, List.set_cons_zero, List.set_cons_succ])))
      refine Lex.done ?_
      refine Lex.ends ?_
      clear f1 f2 f3
      by_cases hq : qk = 0
      · have e2 : (qk != 0) = false := by simpa using hq
        have HP := Lib.hid (HPRE.out hq)
        clear hq
        go_wp2_with fail
        go_roundw
        case rel => exact ⟨k + 1, by omega, by go_num, HP, R6⟩
        case measure => first | (simp [intOf]; done) | (simp [intOf]; omega)
      · have e2 : (qk != 0) = true := by simpa using hq
        have HB := Lib.hid (HBAD.out hq)
        clear hq
        go_wp2_with fail
        go_ret
        exact ⟨by rw [HN2.out, HB.out] <;> rfl, R2.out.trans R6.out⟩
    · obtain rfl : k = is.length := by omega
      have HG : Hid (opsCk is r a = 0) := Lib.hid (find_good (fun i => ckIn i r a) is (fun j h => hpre.out j h h))
      go_wp2_with fail
      go_ret
      exact ⟨by rw [HN2.out, HG.out] <;> rfl, R2.out.trans hfr.out⟩

set_option maxHeartbeats 4000000 in
theorem refcheck_mod (w : World) (m : Mx) (da : Option Addr) (dc : Nat) (fa : Option Addr) (fc : Nat) (hm : ModIn w m da dc fa) (hs : m.Small) :
    Calls Tryz.prog 76 #[.agg #[.slice da m.d.length dc, .slice fa m.f.length fc]] w fun e w' => e = .returned (.int .i64 (modCk m)) ∧ Fr no w w' := by
  obtain ⟨ds, fs⟩ := m
  obtain ⟨hs1, hs2, hs3, -⟩ := hs
  dsimp only at hs1 hs2 hs3 ⊢
  have HF := Lib.hid hm.fns
  have HS := Lib.hid hs3
  have HI := Lib.hid (modObj w (.slice da ds.length dc) (.slice fa fs.length fc))
  have r0 := (Fr.refl no w).alloc (.cells #[.slice da ds.length dc, .slice fa fs.length fc] 25)
  have R0 := Lib.hid r0
  have HCK : Hid (modCk ⟨ds, fs⟩ = if 8192 < ds.length then 3 else if fs.length < 1 ∨ 64 < fs.length then 2 else fnsCk fs) := Lib.hid rfl
  generalize modCk ⟨ds, fs⟩ = ck at *
  clear r0 hm hs3
  go_enter Tryz.func76, Tryz.ntmps76
  obtain ⟨c0, c1⟩ := cells2 HI.out
  have h8' : ¬ (8192 : Int) < ds.length := by omega
  by_cases h1 : fs.length < 1
  · have h1' : (fs.length : Int) < 1 := by omega
    have HB : Hid (ck = 2) := Lib.hid (by rw [HCK.out, if_neg (by omega), if_pos (.inl h1)])
    go_wp2_with fail
    go_ret
    exact ⟨by rw [HB.out]; rfl, R0.out⟩
  have h1' : ¬ (fs.length : Int) < 1 := by omega
  by_cases h2 : 64 < fs.length
  · have h2' : (64 : Int) < fs.length := by omega
    have HB : Hid (ck = 2) := Lib.hid (by rw [HCK.out, if_neg (by omega), if_pos (.inr h2)])
    go_wp2_with fail
    go_ret
    exact ⟨by rw [HB.out]; rfl, R0.out⟩
  have h2' : ¬ (64 : Int) < fs.length := by omega
  have HN2 : Hid (ck = fnsCk fs) := Lib.hid (by rw [HCK.out, if_neg (by omega), if_neg (by omega)])
  clear HCK
  go_wp2_with fail
  go_loopw [3] (fun x wr => ∃ k : Nat, k ≤ fs.length ∧ x = .int .i64 k ∧ Hid (∀ j (_ : j < k) (h : j < fs.length), fnCk fs[j] = 0) ∧ Hid (Fr no (w.alloc (.cells #[.slice da ds.length dc, .slice fa fs.length fc] 25)) wr)) (fun x _ => (fs.length - intOf x).toNat)
  case atStart => exact ⟨0, by omega, rfl, Lib.hid (fun j h _ => by omega), Lib.hid (Fr.refl _ _)⟩
  case round =>
    obtain ⟨k, hk, rfl, hpre, hfr⟩ := hrel
    have HI3 := Lib.hid (hfr.out.heap HI.out (by simp))
    clear c0 c1
    obtain ⟨c0, c1⟩ := cells2 HI3.out
    by_cases hks : k < fs.length
    · have hks' : (k : Int) < fs.length := by omega
      obtain ⟨b, of, ca, cc, rfl, hi⟩ := HF.out.fr (R0.out.trans hfr.out) k hks
      obtain ⟨d0, d1, d2, d3⟩ := hi.four
      have HPP := Lib.hid (reffn_ok wr fs[k] ca cc hi.code (HS.out _ (List.getElem_mem hks)))
      have HBAD : Hid (fnCk fs[k] ≠ 0 → fnsCk fs = fnCk fs[k]) := Lib.hid (fun h => find_bad fnCk fs k hks hpre.out h)
      have HPRE : Hid (fnCk fs[k] = 0 → ∀ j (_ : j < k + 1) (h : j < fs.length), fnCk fs[j] = 0) := Lib.hid (fun h0 j hj h => by
        by_cases he : j = k
        · subst he; exact h0
        · exact hpre.out j (by omega) h)
      have AT := Lib.hid hi.cell
      generalize fnCk fs[k] = qk at *
      generalize fs[k] = fx at *
      clear hi
      obtain ⟨fp, fr, far, fcode⟩ := fx
      unfold Fx.cells at AT
      dsimp only at d0 d1 d2 d3 HPP AT
      go_wp2_with fail
      refine HPP.out.mono ?_
      rintro e w6 ⟨rfl, r6⟩
      have R6 := Lib.hid (hfr.out.trans r6)
      clear r6 d0 d1 d2 d3 c0 c1
      by_cases hq : qk = 0
      · have e2 : (qk != 0) = false := by simpa using hq
        have HP := Lib.hid (HPRE.out hq)
        clear hq
        go_wp2_with fail
        go_roundw
        case rel => exact ⟨k + 1, by omega, by go_num, HP, R6⟩
        case measure => first | (simp [intOf]; done) | (simp [intOf]; omega)
      · have e2 : (qk != 0) = true := by simpa using hq
        have HB := Lib.hid (HBAD.out hq)
        clear hq
        go_wp2_with fail
        go_ret
        exact ⟨by rw [HN2.out, HB.out] <;> rfl, R0.out.trans R6.out⟩
    · obtain rfl : k = fs.length := by omega
      have HG : Hid (fnsCk fs = 0) := Lib.hid (find_good fnCk fs (fun j h => hpre.out j h h))
      go_wp2_with fail
      go_ret
      exact ⟨by rw [HN2.out, HG.out] <;> rfl, R0.out.trans hfr.out⟩

end Go.Proofs.YtihnkijeefkefaaGreat

set_option linter.unusedSimpArgs false
set_option linter.unusedVariables false
set_option linter.unusedSectionVars false
set_option linter.unnecessarySimpa false
set_option maxRecDepth 100000
/- A space that nobody made answers ErrNil. -/
namespace Go.Proofs.YtihnkijeefkefaaGreat
open Go.RowKit

attribute [local go_sem] Program.isFuncB Program.isSliceB

variable {w w' w'' w0 : World} {v : Value}

end Go.Proofs.YtihnkijeefkefaaGreat

set_option linter.unusedSimpArgs false
set_option linter.unusedVariables false
set_option linter.unusedSectionVars false
set_option linter.unnecessarySimpa false
set_option maxRecDepth 100000
/- Calls as they are handed in. -/
namespace Go.Proofs.YtihnkijeefkefaaGreat
open Go.RowKit

attribute [local go_sem] Program.isFuncB Program.isSliceB

variable {w w' w'' w0 : World}

structure Ax where
  k : Int
  r : Int
  n : Int
  b : Int
  v : Nat
  l : List Int
  ek : Int
  ec : Int
def Ax.cells (x : Ax) (u : Value) : List Value := [.int .i64 x.k, .int .i64 x.r, .int .i64 x.n, .int .i64 x.b, .int .u64 x.v, u, .int .i64 x.ek, .int .i64 x.ec]
/-- a call's numbers, as they may be -/
structure Ax.Fine (x : Ax) : Prop where
  n0 : -9223372036854775808 ≤ x.n
  n1 : x.n < 9223372036854775808
  v1 : x.v < 18446744073709551616
  l1 : x.l.length ≤ maxLen
theorem len_eight : ∀ (es : List Value), es.length = 8 → ∃ a b c d e f g h, es = [a, b, c, d, e, f, g, h]
  | [a, b, c, d, e, f, g, h], _ => ⟨a, b, c, d, e, f, g, h, rfl⟩
theorem act_of {n : Nat} {cs : List Value} {d : Dt} (h : Rd Tryz.prog w n 57 cs d) : ∃ (x : Ax) (ua : Option Addr) (uc : Nat), cs = x.cells (.slice ua x.l.length uc) ∧ Reads w (.slice ua x.l.length uc) 1 x.l.length (ints x.l) ∧ x.Fine := by
  obtain ⟨fl, -, hlen, -, hf⟩ := h.fields (z := 8) Tryz.underlying57 (by kernel_rfl)
  obtain ⟨a0, a1, a2, a3, a4, a5, a6, a7, rfl⟩ := len_eight cs hlen
  obtain ⟨_, -, r0⟩ := hf 0 3 0 1 rfl (by kernel_rfl)
  obtain ⟨_, -, r1⟩ := hf 1 3 1 1 rfl (by kernel_rfl)
  obtain ⟨_, -, r2⟩ := hf 2 3 2 1 rfl (by kernel_rfl)
  obtain ⟨_, -, r3⟩ := hf 3 3 3 1 rfl (by kernel_rfl)
  obtain ⟨_, -, r4⟩ := hf 4 34 4 1 rfl (by kernel_rfl)
  obtain ⟨_, -, r5⟩ := hf 5 26 5 1 rfl (by kernel_rfl)
  obtain ⟨_, -, r6⟩ := hf 6 43 6 2 rfl (by kernel_rfl)
  obtain ⟨k, e0, -, -⟩ := r0.int Tryz.underlying3
  obtain ⟨r, e1, -, -⟩ := r1.int Tryz.underlying3
  obtain ⟨nn, e2, -, w2⟩ := r2.int Tryz.underlying3
  obtain ⟨b, e3, -, -⟩ := r3.int Tryz.underlying3
  obtain ⟨v, e4, -, w4⟩ := r4.int Tryz.underlying34
  obtain ⟨l, -, hr, hz, hm⟩ := Rd.reads (v := a5) Tryz.underlying26 Tryz.underlying3 (by kernel_rfl) r5
  obtain ⟨fl2, -, hlen2, -, hf2⟩ := r6.fields (z := 2) Tryz.underlying43 (by kernel_rfl)
  obtain ⟨_, -, q0⟩ := hf2 0 3 0 1 rfl (by kernel_rfl)
  obtain ⟨_, -, q1⟩ := hf2 1 3 1 1 rfl (by kernel_rfl)
  obtain ⟨ek, e6, -, -⟩ := q0.int Tryz.underlying3
  obtain ⟨ec, e7, -, -⟩ := q1.int Tryz.underlying3
  simp at e0 e1 e2 e3 e4 e6 e7
  subst e0 e1 e2 e3 e4 e6 e7
  have h8 : IntKind.i64.min ≤ nn ∧ nn ≤ IntKind.i64.max := by simpa [Lit.wf] using w2
  have h9 : IntKind.i64.min = -9223372036854775808 := by decide
  have h10 : IntKind.i64.max = 9223372036854775807 := by decide
  have h11 : IntKind.u64.min ≤ v ∧ v ≤ IntKind.u64.max := by simpa [Lit.wf] using w4
  have h12 : IntKind.u64.min = 0 := by decide
  have h13 : IntKind.u64.max = 18446744073709551615 := by decide
  obtain ⟨ua, uc, rfl⟩ := hr.shape
  obtain ⟨vn, rfl⟩ : ∃ vn : Nat, v = vn := ⟨v.toNat, by omega⟩
  exact ⟨⟨k, r, nn, b, vn, l, ek, ec⟩, ua, uc, rfl, by simpa [ints] using hr, ⟨by dsimp only; omega, by dsimp only; omega, by dsimp only; omega, hm⟩⟩

/-- a row of calls: where each lies -/
def ActsIn (w : World) (sa : Option Addr) (l : List Ax) : Prop := ∀ k (h : k < l.length), ∃ b o ua uc, sa = some ⟨b, o, none⟩ ∧ At w b (o + k * 8) (l[k].cells (.slice ua l[k].l.length uc)) ∧ Reads w (.slice ua l[k].l.length uc) 1 l[k].l.length (ints l[k].l) ∧ l[k].Fine
theorem ActsIn.fr {sa : Option Addr} {l : List Ax} (h : ActsIn w sa l) (r : Fr no w w') : ActsIn w' sa l := fun k hk => by
  obtain ⟨b, o, ua, uc, e, h1, h2, h3⟩ := h k hk
  exact ⟨b, o, ua, uc, e, h1.fr r, h2.fr r (by simp), h3⟩
theorem acts_of {n : Nat} {v : Value} {d : Dt} (h : Rd Tryz.prog w n 55 [v] d) : ∃ (sa : Option Addr) (c : Nat) (l : List Ax), v = .slice sa l.length c ∧ ActsIn w sa l ∧ l.length ≤ maxLen := by
  obtain ⟨l, sa, cap, -, hcs, h1, h2, h3, h4⟩ := h.rows (z := 8) Tryz.underlying55 (by kernel_rfl) (by decide)
  obtain rfl : v = .slice sa l.length cap := by simpa using hcs
  have hd : ∀ i, i < l.length → ∃ x : Ax, ∃ b o ua uc, sa = some ⟨b, o, none⟩ ∧ At w b (o + i * 8) (x.cells (.slice ua x.l.length uc)) ∧ Reads w (.slice ua x.l.length uc) 1 x.l.length (ints x.l) ∧ x.Fine := by
    intro i hi
    obtain ⟨b, o, es, rfl, h5, h6, h7⟩ := h4 i hi
    obtain ⟨x, ua, uc, rfl, q1, q2⟩ := act_of h7
    exact ⟨x, b, o, ua, uc, rfl, fun j v hj => h6 j v hj, q1, q2⟩
  obtain ⟨xs, hl, hp⟩ := list_of_each hd
  exact ⟨sa, cap, xs, by rw [hl], fun k hk => hp k hk, by omega⟩

/-- are calls more than are gone through? -/
def longA (l : List Ax) : Bool := l.any (fun x => decide (20 < x.l.length)) || decide (50 < l.length)
theorem longA_false {l : List Ax} (h : longA l = false) : l.length ≤ 50 ∧ ∀ x ∈ l, x.l.length ≤ 20 := by
  simp only [longA, Bool.or_eq_false_iff, decide_eq_false_iff_not] at h
  refine ⟨by omega, fun x hx => ?_⟩
  have := List.any_eq_false.1 h.1 x hx
  simp at this
  exact this
theorem long15_ok (w : World) (sa : Option Addr) (c : Nat) (l : List Ax) (h : ActsIn w sa l) (hl : l.length ≤ maxLen) : Calls Tryz.prog 26 #[.slice sa l.length c] w fun e w' => e = .returned (.bool (longA l)) ∧ Fr no w w' := by
  have HA := Lib.hid h
  unfold maxLen at hl
  clear h
  go_enter Tryz.func26, Tryz.ntmps26
  go_wp2_with fail
  go_loopw [3] (fun y wr => ∃ j : Nat, j ≤ l.length ∧ y = .int .i64 j ∧ Hid ((l.take j).any (fun x => decide (20 < x.l.length)) = false) ∧ Hid (Fr no w wr)) (fun y _ => (l.length - intOf y).toNat)
  case atStart => exact ⟨0, by omega, by simp, Lib.hid (by simp), Lib.hid (Fr.refl _ _)⟩
  case round =>
    obtain ⟨j, hj, rfl, hn, hfr⟩ := hrel
    by_cases hjl : j < l.length
    · have hlt : (j : Int) < l.length := by omega
      obtain ⟨b, o, ua, uc, rfl, hat, -, -⟩ := (HA.out.fr hfr.out) j hjl
      have c5 : wr.cell? ⟨b, o + j * 8 + 5, none⟩ = some (.slice ua l[j].l.length uc) := hat 5 _ rfl
      have HN : Hid (l[j].l.length ≤ 20 → (l.take (j + 1)).any (fun x => decide (20 < x.l.length)) = false) := Lib.hid (fun h => by rw [List.take_succ_eq_append_getElem hjl, List.any_append, hn.out]; simp; omega)
      have HY : Hid (20 < l[j].l.length → longA l = true) := Lib.hid (fun h => by
        unfold longA
        rw [Bool.or_eq_true]
        left
        rw [List.any_eq_true]
        exact ⟨l[j], List.getElem_mem hjl, decide_eq_true h⟩)
      clear hat
      generalize l[j].l.length = q at *
      by_cases hq : 20 < q
      · have hq' : (q : Int) > 20 := by omega
        go_wp2_with fail
        go_ret
        exact ⟨by rw [HY.out hq]; rfl, hfr.out⟩
      · have hq' : ¬ (q : Int) > 20 := by omega
        have HN2 := Lib.hid (HN.out (by omega))
        go_wp2_with fail
        go_roundw
        case rel => exact ⟨j + 1, by omega, by go_num, HN2, hfr⟩
        case measure => first | (simp [intOf]; done) | (simp [intOf]; omega)
    · obtain rfl : j = l.length := by omega
      have HL : Hid (longA l = decide ((l.length : Int) > 50)) := Lib.hid (by
        have := hn.out
        rw [List.take_length] at this
        unfold longA
        rw [this, Bool.false_or, decide_eq_decide]
        omega)
      clear hn
      go_wp2_with fail
      go_ret
      exact ⟨by rw [HL.out]; rfl, hfr.out⟩

end Go.Proofs.YtihnkijeefkefaaGreat

set_option linter.unusedSimpArgs false
set_option linter.unusedVariables false
set_option linter.unusedSectionVars false
set_option linter.unnecessarySimpa false
set_option maxRecDepth 100000
/- SpaceNone. -/
namespace Go.Proofs.YtihnkijeefkefaaGreat
open Go.RowKit

attribute [local go_sem] Program.isFuncB Program.isSliceB

variable {w w' w'' w0 : World}

theorem cells8n {b : Nat} {a0 a1 a2 a3 a4 a5 a6 a7 : Value} {t : TypeId} (h : w.heap[b]? = some (.cells #[a0, a1, a2, a3, a4, a5, a6, a7] t (0, 0))) :
    w.cell? ⟨b, 0, none⟩ = some a0 ∧ w.cell? ⟨b, 1, none⟩ = some a1 ∧ w.cell? ⟨b, 2, none⟩ = some a2 ∧ w.cell? ⟨b, 3, none⟩ = some a3 ∧ w.cell? ⟨b, 4, none⟩ = some a4 ∧ w.cell? ⟨b, 5, none⟩ = some a5 ∧ w.cell? ⟨b, 6, none⟩ = some a6 ∧ w.cell? ⟨b, 7, none⟩ = some a7 :=
  ⟨cell_of_heap h rfl, cell_of_heap h rfl, cell_of_heap h rfl, cell_of_heap h rfl, cell_of_heap h rfl, cell_of_heap h rfl, cell_of_heap h rfl, cell_of_heap h rfl⟩
theorem Tryz.infoAct : (Tryz.prog.info? 57).map (·.size) = some 8 := by kernel_rfl
end Go.Proofs.YtihnkijeefkefaaGreat

set_option linter.unusedSimpArgs false
set_option linter.unusedVariables false
set_option linter.unusedSectionVars false
set_option linter.unnecessarySimpa false
set_option maxRecDepth 100000
/- A call of a space, as the law makes it. -/
namespace Go.Proofs.YtihnkijeefkefaaGreat
open Go.RowKit

attribute [local go_sem] Program.isFuncB Program.isSliceB

variable {w w' w'' w0 : World} {O R : Nat → Prop} {p : Nat} {s s' : Zp} {z : Pz}

def u64of (n : Int) : Nat := (n % 18446744073709551616).toNat
def Zp.actS (s : Zp) (x : Ax) : Zp :=
  if x.k = 0 then s else if x.k = 1 then (s.setS x.r x.v).1 else if x.k = 2 then (s.goS x.n).1 else if x.k = 3 then (s.burnS x.n).1
  else if x.k = 4 ∨ x.k = 5 then (s.callS x.n x.l x.r x.b).1 else if x.k = 6 then (s.retS x.v).1 else if x.k = 7 then (s.stopS (x.ek, x.ec)).1
  else if x.k = 8 then (s.getbS).1 else if x.k = 9 then (s.putbS x.n).1 else if x.k = 10 then (s.stoS x.v (u64of x.n)).1 else s
theorem u64of_lt (n : Int) : u64of n < 18446744073709551616 := by unfold u64of; omega
theorem u64of_wrap (n : Int) : IntKind.u64.wrap n = (u64of n : Nat) := by rw [IntKind.wrap_u64]; unfold u64of; omega
/-- a number is stored in the space's memory -/
theorem sto_ok (w : World) (a v : Nat) (ha : a < 18446744073709551616) (hv : v < 18446744073709551616) (h : SpAt w O R p s z) :
    Calls Tryz.prog 33 #[.pointer (some ⟨z.q, 0, none⟩), .int .u64 a, .int .i64 8, .int .u64 v] w fun e w' => e = .returned (.int .i64 (s.stoS a v).2) ∧ SpAt w' O R p (s.stoS a v).1 z ∧ Fr O w w' := by
  have hok := h.ok.stoS a v
  unfold Zp.stoS at hok ⊢
  cases hi : inB s.b.length a 8
  · simp only [Bool.false_eq_true, if_false]
    refine (store_out w a v 8 rfl h.mem ha h.ok.bl hi).mono ?_
    rintro e w' ⟨rfl, r⟩
    refine ⟨rfl, ?_⟩
    exact ⟨h.fr r, r.to⟩
  · rw [hi, if_pos rfl] at hok
    simp only [if_true]
    refine (store_in w a v 8 rfl h.mem ha h.ok.bl hv hi).mono ?_
    rintro e w' ⟨rfl, hm, r⟩
    exact ⟨rfl, h.turnB r hm hok, r.mono (fun k hk _ => by simp at hk; subst hk; exact h.og)⟩
end Go.Proofs.YtihnkijeefkefaaGreat

set_option linter.unusedSimpArgs false
set_option linter.unusedVariables false
set_option linter.unusedSectionVars false
set_option linter.unnecessarySimpa false
set_option maxRecDepth 100000
/- What SpaceBack's calls leave. Plain. -/
namespace Go.Proofs.YtihnkijeefkefaaGreat

variable {s t : Zp}

theorem setS_len (h : s.Ok) (r : Int) (v : Nat) : (s.setS r v).1.b.length = s.b.length ∧ (s.setS r v).1.ds = s.ds := by
  unfold Zp.setS
  split
  · exact ⟨rfl, rfl⟩
  · rename_i he
    split
    · exact ⟨rfl, rfl⟩
    · rename_i hr
      exact ⟨wr8_len v (h.inR (by simpa using he) (by simpa using hr)).2.2.1, rfl⟩
theorem layS_b : ∀ (l : List Nat) (s : Zp) (k : Nat), s.at_ + 8 * (k + l.length) ≤ s.b.length → (s.layS k l).b.length = s.b.length ∧ ∀ i, s.at_ + 8 * (k + l.length) ≤ i → (s.layS k l).b[i]? = s.b[i]?
  | [], s, k, _ => ⟨rfl, fun _ _ => rfl⟩
  | v :: l, s, k, hk => by
    have hk' : s.at_ + 8 * (k + (l.length + 1)) ≤ s.b.length := hk
    have h8 : s.at_ + 8 * k + 8 ≤ s.b.length := by omega
    have hl := wr8_len v h8
    have ih := layS_b l (s.putR k v) (k + 1) (by show s.at_ + 8 * (k + 1 + l.length) ≤ (wr8 s.b (s.at_ + 8 * k) v).length; rw [hl]; omega)
    refine ⟨ih.1.trans hl, fun i hi => ?_⟩
    have hi' : s.at_ + 8 * (k + (l.length + 1)) ≤ i := hi
    exact (ih.2 i (by show s.at_ + 8 * (k + 1 + l.length) ≤ i; omega)).trans (wr8_get v h8 (.inr (by omega)))

/-- a call that went down -/
structure Down (s t : Zp) (f r : Nat) (back : Int) : Prop where
  m : t.m = s.m
  e : t.e = (0, 0)
  f : t.f = f
  pc : t.pc = 0
  le : t.at_ ≤ s.at_
  ls : t.ls = s.ls ++ [⟨s.f, s.at_, back, r⟩]
  bl : t.b.length = s.b.length
  rg : s.rg r = true
theorem zero_end {e : Dd} (h : e = (0, 0) ∨ mayE e = true) (h0 : e.1 = 0) : e = (0, 0) := by
  rcases h with h | h
  · exact h
  · obtain ⟨k, c⟩ := e
    have : k = 0 := h0
    subst this
    rw [mayE_else 0 c (by decide) (by decide) (by decide) (by decide)] at h
    simp at h
theorem call_cases (h : s.Ok) (f : Int) (args : List Int) (res back : Int) : (s.callS f args res back).1.ls.length = s.ls.length ∧ (s.callS f args res back).1.b.length = s.b.length ∧ (s.callS f args res back).1.ds = s.ds ∨
    ((s.callS f args res back).2 = 0 ∧ (s.callS f args res back).1.ds = s.ds ∧ s.e = (0, 0) ∧ ∃ fn rn : Nat, f = fn ∧ res = rn ∧ Down s (s.callS f args res back).1 fn rn back ∧ ∀ i, s.at_ ≤ i → (s.callS f args res back).1.b[i]? = s.b[i]?) := by
  unfold Zp.callS
  split
  · exact .inl ⟨rfl, rfl, rfl⟩
  · rename_i he
    split
    · exact .inl ⟨rfl, rfl, rfl⟩
    · rename_i hf
      split
      · exact .inl ⟨rfl, rfl, rfl⟩
      · rename_i hr
        split
        · exact .inl ⟨rfl, rfl, rfl⟩
        · rename_i hfl
          right
          have he : s.e.1 = 0 := by simpa using he
          simp only [Zp.badR, Bool.not_eq_true, Bool.or_eq_false_iff, Bool.not_eq_false'] at hr
          have hd := h.down he (by simpa using hf) hr.1.1 hr.1.2 (by simpa using hfl)
          simp only [Zp.badF, Bool.not_eq_true, decide_eq_false_iff_not, not_or] at hf
          have c := fnOf_ck h.ck (f := f.toNat) (by omega)
          have hfit := hd.fit (by show s.e.1 = 0; exact he)
          have hsz := fsz_ge c.2.2.2.2.1
          have hat : (s.down f res back).at_ = s.at_ - fsz (fnOf s.m f.toNat) := rfl
          have hfr : (fnOf (s.down f res back).m (s.down f res back).f) = fnOf s.m f.toNat := rfl
          rw [hfr] at hfit
          simp only [Zp.full, decide_eq_true_eq, not_or] at hfl
          have hlb : (s.down f res back).at_ + 8 * (0 + (s.argsS args).length) ≤ (s.down f res back).b.length := by
            refine Nat.le_trans ?_ hfit
            simp only [Zp.argsS, List.length_map]
            omega
          have hb := layS_b (s.argsS args) (s.down f res back) 0 hlb
          have sm := layS_same (s.argsS args) (s.down f res back) 0
          have hrr := hr.1.1
          simp only [Zp.rg, isRg, decide_eq_true_eq] at hrr
          have e0 := zero_end h.em he
          refine ⟨rfl, sm.2.2.2.1, e0, f.toNat, res.toNat, by omega, by omega, ⟨sm.1, ?_, sm.2.2.2.2.2.2.1, sm.2.2.2.2.2.2.2.1, ?_, ?_, hb.1, ?_⟩, fun i hi => ?_⟩
          · rw [sm.2.2.2.2.2.2.2.2.2]; exact e0
          · rw [sm.2.2.2.2.2.1, hat]; omega
          · rw [sm.2.2.2.2.2.2.2.2.1]
            show s.ls ++ [⟨s.f, s.at_, back, res⟩] = _
            rw [show ((res.toNat : Nat) : Int) = res by omega]
          · rw [show ((res.toNat : Nat) : Int) = res by omega]; exact hr.1.1
          · refine hb.2 i ?_
            simp only [Zp.argsS, List.length_map]
            rw [hat]
            omega
theorem actS_keep (h : s.Ok) (x : Ax) : (s.actS x).b.length = s.b.length ∧ (s.actS x).ds.length ≤ s.ds.length + 1 := by
  unfold Zp.actS
  split
  · exact ⟨rfl, by omega⟩
  split
  · have := setS_len h x.r x.v; rw [this.1, this.2]; exact ⟨rfl, by omega⟩
  split
  · unfold Zp.goS; split
    · exact ⟨rfl, by dsimp only; omega⟩
    · split <;> exact ⟨rfl, by dsimp only; omega⟩
  split
  · unfold Zp.burnS; split
    · exact ⟨rfl, by dsimp only; omega⟩
    · split <;> exact ⟨rfl, by dsimp only; omega⟩
  split
  · rcases call_cases h x.n x.l x.r x.b with h1 | h1
    · rw [h1.2.1, h1.2.2]; exact ⟨rfl, by omega⟩
    · obtain ⟨-, hd, -, fn, rn, -, -, hdn, -⟩ := h1
      rw [hdn.bl, hd]; exact ⟨rfl, by omega⟩
  split
  · unfold Zp.retS
    split
    · exact ⟨rfl, by dsimp only; omega⟩
    · rename_i he
      split
      · exact ⟨rfl, by dsimp only; omega⟩
      · rename_i y hy
        have := setS_len (h.up (by simpa using he) hy).1 y.res x.v
        rw [this.1, this.2]
        exact ⟨rfl, by show s.ds.length ≤ _; omega⟩
  split
  · unfold Zp.stopS; split
    · exact ⟨rfl, by dsimp only; omega⟩
    · split <;> exact ⟨rfl, by dsimp only; omega⟩
  split
  · unfold Zp.getbS; split
    · exact ⟨rfl, by dsimp only; omega⟩
    · exact ⟨rfl, by show (s.ds ++ [_]).length ≤ _; simp⟩
  split
  · unfold Zp.putbS; split
    · exact ⟨rfl, by dsimp only; omega⟩
    · exact ⟨rfl, by show (s.ds ++ [_]).length ≤ _; simp⟩
  split
  · unfold Zp.stoS; split
    · rename_i hi
      simp only [inB, decide_eq_true_eq] at hi
      exact ⟨wr8_len _ hi.2, by dsimp only; omega⟩
    · exact ⟨rfl, by dsimp only; omega⟩
  · exact ⟨rfl, by omega⟩

theorem newS_same (m : Mx) (n : Nat) (inp : List Nat) (fuel : Int) : (newS m n inp fuel).m = m ∧ (newS m n inp fuel).inp = inp ∧ (newS m n inp fuel).ls = [] ∧ (newS m n inp fuel).ds = [] ∧ (newS m n inp fuel).f = 0 ∧ (newS m n inp fuel).fuel = fuel := by
  unfold newS
  split
  · have sm := layS_same (List.replicate (fnOf m 0).p.toNat 0) (sp1 m n inp fuel) 0
    exact ⟨sm.1, sm.2.1, sm.2.2.2.2.2.2.2.2.1, sm.2.2.2.1, sm.2.2.2.2.2.2.1, sm.2.2.2.2.1⟩
  · exact ⟨rfl, rfl, rfl, rfl, rfl, rfl⟩
end Go.Proofs.YtihnkijeefkefaaGreat

set_option linter.unusedSimpArgs false
set_option linter.unusedVariables false
set_option linter.unusedSectionVars false
set_option linter.unnecessarySimpa false
set_option maxRecDepth 100000
/- Things that lie side by side in a world, and calls that turn one of them. -/
namespace Go.Proofs.YtihnkijeefkefaaGreat
open Go.RowKit

attribute [local go_sem] Program.isFuncB Program.isSliceB

variable {w w' w'' w0 : World} {O R : Nat → Prop} {A A' B B' : (Nat → Prop) → (Nat → Prop) → World → Prop}

theorem at_mid {b o : Nat} {cs : Array Value} {t : TypeId} {l : List Value} (h : w.heap[b]? = some (.cells cs t (0, 0))) (hl : ∀ j v, l[j]? = some v → cs[o + j]? = some v) : At w b o l := fun j v hj => cell_of_heap h (hl j v hj)
/-- a thing: blocks that may turn, blocks that are read -/
structure Thing (T : (Nat → Prop) → (Nat → Prop) → World → Prop) : Prop where
  fr : ∀ (O R S : Nat → Prop) (w w' : World), T O R w → Fr S w w' → (∀ k, S k → k < w.heap.size → ¬ O k ∧ ¬ R k) → T O R w'
  lt : ∀ (O R : Nat → Prop) (w : World), T O R w → ∀ k, O k ∨ R k → k < w.heap.size
/-- behind a call: what it has of its own is what it had, or new -/
def ThTo (w w' : World) (O R : Nat → Prop) (T : (Nat → Prop) → (Nat → Prop) → World → Prop) : Prop := ∃ O', T O' R w' ∧ Fr O w w' ∧ ∀ k, O' k → O k ∨ w.heap.size ≤ k
/-- the program's space, and the document's -/
def SpT (p : Nat) (s : Zp) : (Nat → Prop) → (Nat → Prop) → World → Prop := fun O R w => ∃ z, SpAt w O R p s z
def RSpT (p : Nat) (s : Zp) : (Nat → Prop) → (Nat → Prop) → World → Prop := fun O R w => ∃ z, RSpAt w O R p s z
theorem spT (p : Nat) (s : Zp) : Thing (SpT p s) := ⟨fun O R S w w' ⟨z, h⟩ r hS => ⟨z, h.frx r hS⟩, fun O R w ⟨z, h⟩ => h.lt⟩
theorem rspT (p : Nat) (s : Zp) : Thing (RSpT p s) := ⟨fun O R S w w' ⟨z, h⟩ r hS => ⟨z, h.frx r hS⟩, fun O R w ⟨z, h⟩ => h.lt⟩
theorem SpTo.th {p : Nat} {s : Zp} (h : SpTo w w' O R p s) : ThTo w w' O R (SpT p s) := by
  obtain ⟨O', z', h1, h2, -, h4⟩ := h
  exact ⟨O', ⟨z', h1⟩, h2, h4⟩
theorem RSpTo.th {p : Nat} {s : Zp} (h : RSpTo w w' O R p s) : ThTo w w' O R (RSpT p s) := by
  obtain ⟨O', z', h1, h2, -, h4⟩ := h
  exact ⟨O', ⟨z', h1⟩, h2, h4⟩

/-- two things, apart -/
def Both (A B : (Nat → Prop) → (Nat → Prop) → World → Prop) : (Nat → Prop) → (Nat → Prop) → World → Prop := fun O R w =>
  ∃ O1 R1 O2 R2 : Nat → Prop, A O1 R1 w ∧ B O2 R2 w ∧ (∀ k, O1 k → ¬ O2 k ∧ ¬ R2 k) ∧ (∀ k, O2 k → ¬ R1 k) ∧ (∀ k, O k ↔ (O1 k ∨ O2 k)) ∧ ∀ k, R k ↔ (R1 k ∨ R2 k)
theorem Both.thing (ha : Thing A) (hb : Thing B) : Thing (Both A B) := by
  refine ⟨fun O R S w w' h r hS => ?_, fun O R w h k hk => ?_⟩
  · obtain ⟨O1, R1, O2, R2, h1, h2, d1, d2, hO, hR⟩ := h
    refine ⟨O1, R1, O2, R2, ha.fr _ _ _ _ _ h1 r (fun k hs hk => ?_), hb.fr _ _ _ _ _ h2 r (fun k hs hk => ?_), d1, d2, hO, hR⟩
    · have := hS k hs hk; rw [hO, hR] at this; exact ⟨fun h => this.1 (.inl h), fun h => this.2 (.inl h)⟩
    · have := hS k hs hk; rw [hO, hR] at this; exact ⟨fun h => this.1 (.inr h), fun h => this.2 (.inr h)⟩
  · obtain ⟨O1, R1, O2, R2, h1, h2, d1, d2, hO, hR⟩ := h
    rw [hO, hR] at hk
    rcases hk with (h | h) | (h | h)
    · exact ha.lt _ _ _ h1 k (.inl h)
    · exact hb.lt _ _ _ h2 k (.inl h)
    · exact ha.lt _ _ _ h1 k (.inr h)
    · exact hb.lt _ _ _ h2 k (.inr h)
/-- a call that turns the first -/
theorem Both.left {f : Nat} {args : Array Value} {r : Ending} (ha : Thing A) (hb : Thing B) (h : Both A B O R w) (hc : ∀ O R, A O R w → Calls Tryz.prog f args w fun e w' => e = r ∧ ThTo w w' O R A') :
    Calls Tryz.prog f args w fun e w' => e = r ∧ ThTo w w' O R (Both A' B) := by
  obtain ⟨O1, R1, O2, R2, h1, h2, d1, d2, hO, hR⟩ := h
  have l2 := hb.lt _ _ _ h2
  have l1 := ha.lt _ _ _ h1
  refine (hc O1 R1 h1).mono ?_
  rintro e w' ⟨rfl, O', h', r, n⟩
  refine ⟨rfl, fun k => O' k ∨ O2 k, ⟨O', R1, O2, R2, h', hb.fr _ _ _ _ _ h2 r (fun k hk _ => d1 k hk), fun k hk => ?_, d2, fun k => Iff.rfl, hR⟩, r.mono (fun k hk _ => (hO k).2 (.inl hk)), fun k hk => ?_⟩
  · rcases n k hk with h | h
    · exact d1 k h
    · exact ⟨fun ho => by have := l2 k (.inl ho); omega, fun ho => by have := l2 k (.inr ho); omega⟩
  · rcases hk with hk | hk
    · exact (n k hk).imp (fun h => (hO k).2 (.inl h)) id
    · exact .inl ((hO k).2 (.inr hk))
/-- a call that turns the second -/
theorem Both.right {f : Nat} {args : Array Value} {r : Ending} (ha : Thing A) (hb : Thing B) (h : Both A B O R w) (hc : ∀ O R, B O R w → Calls Tryz.prog f args w fun e w' => e = r ∧ ThTo w w' O R B') :
    Calls Tryz.prog f args w fun e w' => e = r ∧ ThTo w w' O R (Both A B') := by
  obtain ⟨O1, R1, O2, R2, h1, h2, d1, d2, hO, hR⟩ := h
  have l1 := ha.lt _ _ _ h1
  refine (hc O2 R2 h2).mono ?_
  rintro e w' ⟨rfl, O', h', r, n⟩
  refine ⟨rfl, fun k => O1 k ∨ O' k, ⟨O1, R1, O', R2, ha.fr _ _ _ _ _ h1 r (fun k hk _ => ⟨fun h => (d1 k h).1 hk, d2 k hk⟩), h', fun k hk => ⟨fun ho => ?_, (d1 k hk).2⟩, fun k hk => ?_, fun k => Iff.rfl, hR⟩, r.mono (fun k hk _ => (hO k).2 (.inr hk)), fun k hk => ?_⟩
  · rcases n k ho with h | h
    · exact (d1 k hk).1 h
    · have := l1 k (.inl hk); omega
  · rcases n k hk with h | h
    · exact d2 k h
    · exact fun hr => by have := l1 k (.inr hr); omega
  · rcases hk with hk | hk
    · exact .inl ((hO k).2 (.inl hk))
    · exact (n k hk).imp (fun h => (hO k).2 (.inr h)) id
/-- a call that reads the first alone, or the second -/
theorem Both.at1 {φ : Prop} (h : Both A B O R w) (hc : ∀ O R, A O R w → φ) : φ := by
  obtain ⟨O1, R1, O2, R2, h1, h2, d1, d2, hO, hR⟩ := h
  exact hc _ _ h1
theorem Both.at2 {φ : Prop} (h : Both A B O R w) (hc : ∀ O R, B O R w → φ) : φ := by
  obtain ⟨O1, R1, O2, R2, h1, h2, d1, d2, hO, hR⟩ := h
  exact hc _ _ h2

/-- a thing that is new since a world, apart from some blocks -/
def Held (w0 w : World) (T : (Nat → Prop) → (Nat → Prop) → World → Prop) (X : Nat → Prop) : Prop := ∃ O R, T O R w ∧ (∀ k, O k → w0.heap.size ≤ k ∧ ¬ X k) ∧ Fr no w0 w ∧ (∀ k, X k → k < w.heap.size) ∧ ∀ k, R k → ¬ X k
theorem Held.frame {X : Nat → Prop} (h : Held w0 w A X) : Fr no w0 w := by
  obtain ⟨O, R, -, -, r, -⟩ := h
  exact r
theorem Held.turn {X S : Nat → Prop} (ha : Thing A) (h : Held w0 w A X) (r : Fr S w w') (hS : ∀ k, S k → X k ∧ w0.heap.size ≤ k) : Held w0 w' A X := by
  obtain ⟨O, R, h, hO, r0, hX, hRX⟩ := h
  exact ⟨O, R, ha.fr _ _ _ _ _ h r (fun k hk _ => ⟨fun ho => (hO k ho).2 (hS k hk).1, fun hr => hRX k hr (hS k hk).1⟩), hO, r0.trans' r (fun k hk _ => (hS k hk).2), fun k hk => Nat.lt_of_lt_of_le (hX k hk) r.size, hRX⟩
theorem Held.fr {X : Nat → Prop} (ha : Thing A) (h : Held w0 w A X) (r : Fr no w w') : Held w0 w' A X := h.turn ha r (fun k hk => hk.elim)
theorem Held.one {φ : Prop} {X : Nat → Prop} (h : Held w0 w A X) (hc : ∀ O R, A O R w → φ) : φ := by
  obtain ⟨O, R, h, -⟩ := h
  exact hc _ _ h

end Go.Proofs.YtihnkijeefkefaaGreat

set_option linter.unusedSimpArgs false
set_option linter.unusedVariables false
set_option linter.unusedSectionVars false
set_option linter.unnecessarySimpa false
set_option maxRecDepth 100000
/- Both spaces, and what a call of them has of its own. -/
namespace Go.Proofs.YtihnkijeefkefaaGreat
open Go.RowKit

attribute [local go_sem] Program.isFuncB Program.isSliceB

variable {w w' w'' w0 w1 : World} {O R X : Nat → Prop} {p q : Nat} {s s' t t' : Zp}

section
variable {z : Rz} {aa : Option Addr} {ac : Nat} {ar : List Int} {f res back : Int}
theorem rcall_ok (w : World) (h : RSpAt w O R p s z) (hal : ar.length ≤ 1000000) (hv : Reads w (.slice aa ar.length ac) 1 ar.length (ints ar)) : Calls Tryz.prog 85 #[.pointer (some ⟨p, 0, none⟩), .int .i64 f, .slice aa ar.length ac, .int .i64 res, .int .i64 back] w fun e w' => e = .returned (.int .i64 (s.callS f ar res back).2) ∧ RSpTo w w' O R p (s.callS f ar res back).1 := by
  by_cases he : s.e.1 = 0
  case neg => rw [callS_9 he]; exact rcall_9 w h he
  cases hf : s.badF f ar.length
  case true => rw [callS_2 he hf]; exact rcall_2 w h he hf
  cases hr : s.badR ar res back
  case true =>
    rw [callS_5 he hf hr]
    by_cases h1 : s.rg res = false ∨ isPl back = false
    · exact rcall_5a w h he hf h1
    · have h2 : s.rg res = true := by cases hh : s.rg res; exact absurd (.inl hh) h1; rfl
      have h3 : isPl back = true := by cases hh : isPl back; exact absurd (.inr hh) h1; rfl
      simp only [Zp.badR, h2, h3, Bool.not_true, Bool.false_or] at hr
      exact rcall_5b w h he hf h2 h3 hr hal hv
  cases hl : s.full f
  · rw [callS_0 he hf hr hl]; exact rcall_0 w h he hf hr hl hv
  · rw [callS_f he hf hr hl]
    by_cases hA : s.at_ < flr s.m + fsz (fnOf s.m f.toNat)
    · exact rcall_fa w h he hf hr hl hv hA
    · exact rcall_fb w h he hf hr hl hv hA
/-- a number is stored in the document's memory -/
theorem rsto_ok (w : World) (a v : Nat) (ha : a < 18446744073709551616) (hv : v < 18446744073709551616) (h : RSpAt w O R p s z) :
    Calls Tryz.prog 91 #[.pointer (some ⟨z.q, 0, none⟩), .int .u64 a, .int .i64 8, .int .u64 v] w fun e w' => e = .returned (.int .i64 (s.stoS a v).2) ∧ RSpAt w' O R p (s.stoS a v).1 z ∧ Fr O w w' := by
  have hok := h.ok.stoS a v
  unfold Zp.stoS at hok ⊢
  cases hi : inB s.b.length a 8
  · simp only [Bool.false_eq_true, if_false]
    refine (rstore_out w a 8 v rfl h.mem ha h.ok.bl hi).mono ?_
    rintro e w' ⟨rfl, rfl⟩
    exact ⟨rfl, h, Fr.refl _ _⟩
  · rw [hi, if_pos rfl] at hok
    simp only [if_true]
    refine (rstore_in w a 8 v rfl h.mem ha h.ok.bl hv hi).mono ?_
    rintro e w' ⟨rfl, hm, r⟩
    exact ⟨rfl, h.turnB r hm hok, r.mono (fun k hk _ => by simp at hk; subst hk; exact h.og)⟩
end

/-- both spaces, apart from blocks of the caller's own -/
structure DoAt (w0 w : World) (p q : Nat) (s t : Zp) (O R X : Nat → Prop) : Prop where
  th : ∃ O', Both (SpT p s) (RSpT q t) O' R w ∧ ∀ k, O' k → O k ∨ (w0.heap.size ≤ k ∧ ¬ X k)
  fr : Fr O w0 w
  olt : ∀ k, O k → k < w0.heap.size
  xlt : ∀ k, X k → k < w.heap.size
  xge : ∀ k, X k → w0.heap.size ≤ k
theorem DoAt.start (h : Both (SpT p s) (RSpT q t) O R w0) (r : Fr no w0 w1) : DoAt w0 w1 p q s t O R (fun k => w0.heap.size ≤ k ∧ k < w1.heap.size) := by
  have T := Both.thing (spT p s) (rspT q t)
  exact ⟨⟨O, T.fr _ _ _ _ _ h r (fun k hk => hk.elim), fun k hk => .inl hk⟩, r.to, fun k hk => T.lt _ _ _ h k (.inl hk), fun k hk => hk.2, fun k hk => hk.1⟩
theorem DoAt.done (h : DoAt w0 w p q s t O R X) : ThTo w0 w O R (Both (SpT p s) (RSpT q t)) := by
  obtain ⟨O', h1, h2⟩ := h.th
  exact ⟨O', h1, h.fr, fun k hk => (h2 k hk).imp id (fun h => h.1)⟩
theorem DoAt.soft (h : DoAt w0 w p q s t O R X) (r : Fr no w w') : DoAt w0 w' p q s t O R X := by
  obtain ⟨O', h1, h2⟩ := h.th
  exact ⟨⟨O', (Both.thing (spT p s) (rspT q t)).fr _ _ _ _ _ h1 r (fun k hk => hk.elim), h2⟩, h.fr.trans' r (fun k hk _ => hk.elim), h.olt, fun k hk => Nat.lt_of_lt_of_le (h.xlt k hk) r.size, h.xge⟩
theorem DoAt.step {O' : Nat → Prop} (h : DoAt w0 w p q s t O R X) (h2 : ∀ k, O' k → O k ∨ (w0.heap.size ≤ k ∧ ¬ X k)) (ht : ThTo w w' O' R (Both (SpT p s') (RSpT q t'))) : DoAt w0 w' p q s' t' O R X ∧ Fr (fun k => O k ∨ (w0.heap.size ≤ k ∧ ¬ X k)) w w' := by
  obtain ⟨O2, b1, r, b2⟩ := ht
  have hs := h.fr.size
  refine ⟨⟨⟨O2, b1, fun k hk => ?_⟩, h.fr.trans' r (fun k hk hn => (h2 k hk).elim (fun h => absurd h hn) (fun h => h.1)), h.olt, fun k hk => Nat.lt_of_lt_of_le (h.xlt k hk) r.size, h.xge⟩, r.mono (fun k hk _ => h2 k hk)⟩
  rcases b2 k hk with h3 | h3
  · exact h2 k h3
  · exact .inr ⟨by omega, fun hx => by have := h.xlt k hx; omega⟩
/-- a call of the program's space -/
theorem DoAt.call1 {f : Nat} {args : Array Value} {r : Ending} (h : DoAt w0 w p q s t O R X) (hc : ∀ O R z, SpAt w O R p s z → Calls Tryz.prog f args w fun e w' => e = r ∧ SpTo w w' O R p s') :
    Calls Tryz.prog f args w fun e w' => e = r ∧ DoAt w0 w' p q s' t O R X ∧ Fr (fun k => O k ∨ (w0.heap.size ≤ k ∧ ¬ X k)) w w' := by
  obtain ⟨O', h1, h2⟩ := h.th
  refine (h1.left (spT p s) (rspT q t) (fun O R ⟨z, hz⟩ => (hc O R z hz).mono (fun e w' ⟨a, b⟩ => ⟨a, b.th⟩))).mono ?_
  rintro e w' ⟨rfl, ht⟩
  exact ⟨rfl, h.step h2 ht⟩
/-- a call of the document's space -/
theorem DoAt.call2 {f : Nat} {args : Array Value} {r : Ending} (h : DoAt w0 w p q s t O R X) (hc : ∀ O R z, RSpAt w O R q t z → Calls Tryz.prog f args w fun e w' => e = r ∧ RSpTo w w' O R q t') :
    Calls Tryz.prog f args w fun e w' => e = r ∧ DoAt w0 w' p q s t' O R X ∧ Fr (fun k => O k ∨ (w0.heap.size ≤ k ∧ ¬ X k)) w w' := by
  obtain ⟨O', h1, h2⟩ := h.th
  refine (h1.right (spT p s) (rspT q t) (fun O R ⟨z, hz⟩ => (hc O R z hz).mono (fun e w' ⟨a, b⟩ => ⟨a, b.th⟩))).mono ?_
  rintro e w' ⟨rfl, ht⟩
  exact ⟨rfl, h.step h2 ht⟩
theorem DoAt.at1 {φ : Prop} (h : DoAt w0 w p q s t O R X) (hc : ∀ O R z, SpAt w O R p s z → φ) : φ := by
  obtain ⟨O', h1, -⟩ := h.th
  exact h1.at1 (fun O R ⟨z, hz⟩ => hc O R z hz)
theorem DoAt.at2 {φ : Prop} (h : DoAt w0 w p q s t O R X) (hc : ∀ O R z, RSpAt w O R q t z → φ) : φ := by
  obtain ⟨O', h1, -⟩ := h.th
  exact h1.at2 (fun O R ⟨z, hz⟩ => hc O R z hz)
/-- the memory of each, and a number stored in both -/
theorem DoAt.sto (h : DoAt w0 w p q s t O R X) : ∃ g1 g2, (Calls Tryz.prog 30 #[.pointer (some ⟨p, 0, none⟩)] w fun e w' => e = .returned (.pointer (some ⟨g1, 0, none⟩)) ∧ w = w') ∧ w.cell? ⟨q, 2, none⟩ = some (.pointer (some ⟨g2, 0, none⟩)) ∧
    ∀ a v : Nat, a < 18446744073709551616 → v < 18446744073709551616 → Calls Tryz.prog 33 #[.pointer (some ⟨g1, 0, none⟩), .int .u64 a, .int .i64 8, .int .u64 v] w fun e w' => e = .returned (.int .i64 (s.stoS a v).2) ∧ w'.cell? ⟨q, 2, none⟩ = some (.pointer (some ⟨g2, 0, none⟩)) ∧ DoAt w0 w' p q (s.stoS a v).1 t O R X ∧ Fr (fun k => O k ∨ (w0.heap.size ≤ k ∧ ¬ X k)) w w' ∧
      Calls Tryz.prog 91 #[.pointer (some ⟨g2, 0, none⟩), .int .u64 a, .int .i64 8, .int .u64 v] w' fun e w'' => e = .returned (.int .i64 (t.stoS a v).2) ∧ w''.cell? ⟨q, 2, none⟩ = some (.pointer (some ⟨g2, 0, none⟩)) ∧ DoAt w0 w'' p q (s.stoS a v).1 (t.stoS a v).1 O R X ∧ Fr (fun k => O k ∨ (w0.heap.size ≤ k ∧ ¬ X k)) w' w'' := by
  obtain ⟨O', h1, h2⟩ := h.th
  obtain ⟨O1, R1, O2, R2, ⟨z, hz⟩, ⟨y, hy⟩, d1, d2, hO, hR⟩ := h1
  refine ⟨z.q, y.q, smemory_ok w hz, cell_of_heap hy.obj rfl, fun a v ha hv => (sto_ok w a v ha hv hz).mono ?_⟩
  rintro e w' ⟨rfl, hz', r⟩
  have hy' := hy.frx r (fun k hk _ => d1 k hk)
  have st := h.step h2 (s' := (s.stoS a v).1) (t' := t) ⟨O', ⟨O1, R1, O2, R2, ⟨z, hz'⟩, ⟨y, hy'⟩, d1, d2, hO, hR⟩, r.mono (fun k hk _ => (hO k).2 (.inl hk)), fun k hk => .inl hk⟩
  refine ⟨rfl, cell_of_heap hy'.obj rfl, st.1, st.2, (rsto_ok w' a v ha hv hy').mono ?_⟩
  rintro e w'' ⟨rfl, hy'', r'⟩
  have hz'' := hz'.frx r' (fun k hk _ => ⟨fun ho => (d1 k ho).1 hk, d2 k hk⟩)
  have st' := st.1.step h2 (s' := (s.stoS a v).1) (t' := (t.stoS a v).1) ⟨O', ⟨O1, R1, O2, R2, ⟨z, hz''⟩, ⟨y, hy''⟩, d1, d2, hO, hR⟩, r'.mono (fun k hk _ => (hO k).2 (.inr hk)), fun k hk => .inl hk⟩
  exact ⟨rfl, cell_of_heap hy''.obj rfl, st'.1, st'.2⟩

end Go.Proofs.YtihnkijeefkefaaGreat

set_option linter.unusedSimpArgs false
set_option linter.unusedVariables false
set_option linter.unusedSectionVars false
set_option linter.unnecessarySimpa false
set_option maxRecDepth 100000
/- A call of both spaces answers alike. -/
namespace Go.Proofs.YtihnkijeefkefaaGreat
open Go.RowKit

attribute [local go_sem] Program.isFuncB Program.isSliceB

variable {w w' w'' w0 w1 : World} {O R X : Nat → Prop} {p q : Nat} {s s' t t' : Zp}

theorem endAt8 {b : Nat} {a0 a1 a2 a3 a4 a5 a6 a7 : Value} {t : TypeId} (h : w.heap[b]? = some (.cells #[a0, a1, a2, a3, a4, a5, a6, a7] t (0, 0))) : At w b 6 [a6, a7] := fun j v hj => by
  match j, hj with
  | 0, h0 => cases h0; exact cell_of_heap h rfl
  | 1, h1 => cases h1; exact cell_of_heap h rfl
set_option maxHeartbeats 4000000 in
theorem does_0 (w : World) (x : Ax) (ua : Option Addr) (uc : Nat) (hk : x.k = 0) (hr : ∀ w', Fr O w w' → Reads w' (.slice ua x.l.length uc) 1 x.l.length (ints x.l)) (hf : x.Fine) (hd : s.ds.length < 100000) (h : Both (SpT p s) (RSpT q s) O R w) :
    Calls Tryz.prog 36 #[.pointer (some ⟨p, 0, none⟩), .pointer (some ⟨q, 0, none⟩), .agg #[.int .i64 x.k, .int .i64 x.r, .int .i64 x.n, .int .i64 x.b, .int .u64 x.v, .slice ua x.l.length uc, .int .i64 x.ek, .int .i64 x.ec]] w fun e w' => e = .returned (.bool true) ∧ ThTo w w' O R (Both (SpT p s) (RSpT q s)) := by
  obtain ⟨xk, xr, xn, xb, xv, xl, xek, xec⟩ := x
  dsimp only at *
  subst hk
  have HF := Lib.hid hf
  have HD := Lib.hid hd
  have r1 := (Fr.refl no w).alloc (.cells #[.int .i64 0, .int .i64 xr, .int .i64 xn, .int .i64 xb, .int .u64 xv, .slice ua xl.length uc, .int .i64 xek, .int .i64 xec] 57)
  have hb1 := heap_new w (.cells #[.int .i64 0, .int .i64 xr, .int .i64 xn, .int .i64 xb, .int .u64 xv, .slice ua xl.length uc, .int .i64 xek, .int .i64 xec] 57)
  have HB1 := Lib.hid hb1
  have HD1 := Lib.hid (DoAt.start h r1)
  have HXB : Hid (¬ (O w.heap.size ∨ (w.heap.size ≤ w.heap.size ∧ ¬ (w.heap.size ≤ w.heap.size ∧ w.heap.size < (w.alloc (.cells #[.int .i64 0, .int .i64 xr, .int .i64 xn, .int .i64 xb, .int .u64 xv, .slice ua xl.length uc, .int .i64 xek, .int .i64 xec] 57)).heap.size)))) := Lib.hid (fun hx => by
    rcases hx with hx | hx
    · have := HD1.out.olt _ hx; omega
    · exact hx.2 ⟨Nat.le_refl _, (Array.getElem?_eq_some_iff.1 hb1).1⟩)
  clear r1 h hf hd hb1
  go_enter Tryz.func36, Tryz.ntmps36
  obtain ⟨b0, b1, b2, b3, b4, b5, b6, b7⟩ := cells8n HB1.out
  go_wp2_with fail
  refine (HD1.out.at1 (fun O R z h => sget_ok _ xr h)).mono ?_
  rintro e w3 ⟨rfl, r3⟩
  have HD3 := Lib.hid (HD1.out.soft r3)
  have HB3 := Lib.hid (r3.heap HB1.out (by simp))
  clear r3
  clear b0 b1 b2 b3 b4 b5 b6 b7
  obtain ⟨b0, b1, b2, b3, b4, b5, b6, b7⟩ := cells8n HB3.out
  go_wp2_with fail
  refine (HD3.out.at2 (fun O R z h => rget_ok _ xr h)).mono ?_
  rintro e w4 ⟨rfl, r4⟩
  have HD4 := Lib.hid (HD3.out.soft r4)
  clear r4
  clear b0 b1 b2 b3 b4 b5 b6 b7
  go_wp2_with fail
  go_ret
  exact ⟨by simp, HD4.out.done⟩
set_option maxHeartbeats 4000000 in
theorem does_1 (w : World) (x : Ax) (ua : Option Addr) (uc : Nat) (hk : x.k = 1) (hr : ∀ w', Fr O w w' → Reads w' (.slice ua x.l.length uc) 1 x.l.length (ints x.l)) (hf : x.Fine) (hd : s.ds.length < 100000) (h : Both (SpT p s) (RSpT q s) O R w) :
    Calls Tryz.prog 36 #[.pointer (some ⟨p, 0, none⟩), .pointer (some ⟨q, 0, none⟩), .agg #[.int .i64 x.k, .int .i64 x.r, .int .i64 x.n, .int .i64 x.b, .int .u64 x.v, .slice ua x.l.length uc, .int .i64 x.ek, .int .i64 x.ec]] w fun e w' => e = .returned (.bool true) ∧ ThTo w w' O R (Both (SpT p (s.setS x.r x.v).1) (RSpT q (s.setS x.r x.v).1)) := by
  obtain ⟨xk, xr, xn, xb, xv, xl, xek, xec⟩ := x
  dsimp only at *
  subst hk
  have HF := Lib.hid hf
  have HD := Lib.hid hd
  have r1 := (Fr.refl no w).alloc (.cells #[.int .i64 1, .int .i64 xr, .int .i64 xn, .int .i64 xb, .int .u64 xv, .slice ua xl.length uc, .int .i64 xek, .int .i64 xec] 57)
  have hb1 := heap_new w (.cells #[.int .i64 1, .int .i64 xr, .int .i64 xn, .int .i64 xb, .int .u64 xv, .slice ua xl.length uc, .int .i64 xek, .int .i64 xec] 57)
  have HB1 := Lib.hid hb1
  have HD1 := Lib.hid (DoAt.start h r1)
  have HXB : Hid (¬ (O w.heap.size ∨ (w.heap.size ≤ w.heap.size ∧ ¬ (w.heap.size ≤ w.heap.size ∧ w.heap.size < (w.alloc (.cells #[.int .i64 1, .int .i64 xr, .int .i64 xn, .int .i64 xb, .int .u64 xv, .slice ua xl.length uc, .int .i64 xek, .int .i64 xec] 57)).heap.size)))) := Lib.hid (fun hx => by
    rcases hx with hx | hx
    · have := HD1.out.olt _ hx; omega
    · exact hx.2 ⟨Nat.le_refl _, (Array.getElem?_eq_some_iff.1 hb1).1⟩)
  clear r1 h hf hd hb1
  go_enter Tryz.func36, Tryz.ntmps36
  go_upto_region 7 with (fail)
  have HD2 := Lib.hid (HD1.out.soft (Fr.refl no _).drew)
  have SC : Hid (∀ w' : World, w'.heap[w.heap.size]? = some (.cells #[.int .i64 1, .int .i64 xr, .int .i64 xn, .int .i64 xb, .int .u64 xv, .slice ua xl.length uc, .int .i64 xek, .int .i64 xec] 57 (0, 0)) → (fun w' : World => w'.cell? ⟨w.heap.size, 1, none⟩ = some (.int .i64 xr) ∧ w'.cell? ⟨w.heap.size, 4, none⟩ = some (.int .u64 xv)) w') := Lib.hid (fun w' h => ⟨cell_of_heap h rfl, cell_of_heap h rfl⟩)
  have HB2 : Hid ((w.alloc (.cells #[.int .i64 1, .int .i64 xr, .int .i64 xn, .int .i64 xb, .int .u64 xv, .slice ua xl.length uc, .int .i64 xek, .int .i64 xec] 57)).drew.heap[w.heap.size]? = some (.cells #[.int .i64 1, .int .i64 xr, .int .i64 xn, .int .i64 xb, .int .u64 xv, .slice ua xl.length uc, .int .i64 xek, .int .i64 xec] 57 (0, 0))) := Lib.hid HB1.out
  have S2 := Lib.hid (SC.out _ HB2.out)
  refine Lex.region [5, 11] [14] (by kernel_rfl) (by kernel_rfl) ?_
  refine Lex.opens (fun w' : World => w'.cell? ⟨w.heap.size, 1, none⟩ = some (.int .i64 xr) ∧ w'.cell? ⟨w.heap.size, 4, none⟩ = some (.int .u64 xv)) (S2.out) ?_
  repeat (first
    | (refine Lex.skips (by rfl) ?_; (try simp only [Act.put, List.setIfInBounds_toArray, List.set_cons_zero, List.set_cons_succ]))
    | (refine Lex.quiet (v := ?_) (by rfl) (by rfl) ?_ ?_; rotate_left; (focus (intro w' hS'; go_simp; try rfl)); (try simp only [Act.put, List.setIfInBounds_toArray, List.set_cons_zero, List.set_cons_succ])))
  refine Lex.loud (by rfl) (by rfl) ?_
  intro K' hK'
  go_simp
  refine (HD2.out.call1 (fun O R z h => (sset_ok _ xr xv HF.out.v1 h).mono (fun e w' ⟨a, b, c⟩ => ⟨a, b.to c⟩))).mono ?_
  rintro e w3 ⟨rfl, hd3, r3⟩
  have HD3 := Lib.hid hd3
  have HB3 := Lib.hid (r3.heap HB2.out HXB.out)
  have S3 := Lib.hid (SC.out _ HB3.out)
  clear hd3 r3
  refine hK' _ _ (S3.out) ?_
  clear hK'
  try simp only [Act.put, List.setIfInBounds_toArray, List.set_cons_zero, List.set_cons_succ]
  repeat (first
    | (refine Lex.skips (by rfl) ?_; (try simp only [Act.put, List.setIfInBounds_toArray, List.set_cons_zero, List.set_cons_succ]))
    | (refine Lex.quiet (v := ?_) (by rfl) (by rfl) ?_ ?_; rotate_left; (focus (intro w' hS'; go_simp; try rfl)); (try simp only [Act.put, List.setIfInBounds_toArray, List.set_cons_zero, List.set_cons_succ])))
  refine Lex.loud (by rfl) (by rfl) ?_
  intro K' hK'
  go_simp
  refine (HD3.out.call2 (fun O R z h => (rset_ok _ xr xv HF.out.v1 h).mono (fun e w' ⟨a, b, c⟩ => ⟨a, b.to c⟩))).mono ?_
  rintro e w4 ⟨rfl, hd4, r4⟩
  have HD4 := Lib.hid hd4
  have HB4 := Lib.hid (r4.heap HB3.out HXB.out)
  have S4 := Lib.hid (SC.out _ HB4.out)
  clear hd4 r4
  refine hK' _ _ (S4.out) ?_
  clear hK'
  try simp only [Act.put, List.setIfInBounds_toArray, List.set_cons_zero, List.set_cons_succ]
  repeat (first
    | (refine Lex.skips (by rfl) ?_; (try simp only [Act.put, List.setIfInBounds_toArray, List.set_cons_zero, List.set_cons_succ]))
    | (refine Lex.quiet (v := ?_) (by rfl) (by rfl) ?_ ?_; rotate_left; (focus (intro w' hS'; go_simp; try rfl)); (try simp only [Act.put, List.setIfInBounds_toArray, List.set_cons_zero, List.set_cons_succ])))
  refine Lex.done ?_
  refine Lex.ends ?_
  go_wp2_with fail
  go_ret
  exact ⟨by simp, HD4.out.done⟩
set_option maxHeartbeats 4000000 in
theorem does_2 (w : World) (x : Ax) (ua : Option Addr) (uc : Nat) (hk : x.k = 2) (hr : ∀ w', Fr O w w' → Reads w' (.slice ua x.l.length uc) 1 x.l.length (ints x.l)) (hf : x.Fine) (hd : s.ds.length < 100000) (h : Both (SpT p s) (RSpT q s) O R w) :
    Calls Tryz.prog 36 #[.pointer (some ⟨p, 0, none⟩), .pointer (some ⟨q, 0, none⟩), .agg #[.int .i64 x.k, .int .i64 x.r, .int .i64 x.n, .int .i64 x.b, .int .u64 x.v, .slice ua x.l.length uc, .int .i64 x.ek, .int .i64 x.ec]] w fun e w' => e = .returned (.bool true) ∧ ThTo w w' O R (Both (SpT p (s.goS x.n).1) (RSpT q (s.goS x.n).1)) := by
  obtain ⟨xk, xr, xn, xb, xv, xl, xek, xec⟩ := x
  dsimp only at *
  subst hk
  have HF := Lib.hid hf
  have HD := Lib.hid hd
  have r1 := (Fr.refl no w).alloc (.cells #[.int .i64 2, .int .i64 xr, .int .i64 xn, .int .i64 xb, .int .u64 xv, .slice ua xl.length uc, .int .i64 xek, .int .i64 xec] 57)
  have hb1 := heap_new w (.cells #[.int .i64 2, .int .i64 xr, .int .i64 xn, .int .i64 xb, .int .u64 xv, .slice ua xl.length uc, .int .i64 xek, .int .i64 xec] 57)
  have HB1 := Lib.hid hb1
  have HD1 := Lib.hid (DoAt.start h r1)
  have HXB : Hid (¬ (O w.heap.size ∨ (w.heap.size ≤ w.heap.size ∧ ¬ (w.heap.size ≤ w.heap.size ∧ w.heap.size < (w.alloc (.cells #[.int .i64 2, .int .i64 xr, .int .i64 xn, .int .i64 xb, .int .u64 xv, .slice ua xl.length uc, .int .i64 xek, .int .i64 xec] 57)).heap.size)))) := Lib.hid (fun hx => by
    rcases hx with hx | hx
    · have := HD1.out.olt _ hx; omega
    · exact hx.2 ⟨Nat.le_refl _, (Array.getElem?_eq_some_iff.1 hb1).1⟩)
  clear r1 h hf hd hb1
  go_enter Tryz.func36, Tryz.ntmps36
  go_upto_region 9 with (fail)
  have HD2 := Lib.hid (HD1.out.soft (Fr.refl no _).drew)
  have SC : Hid (∀ w' : World, w'.heap[w.heap.size]? = some (.cells #[.int .i64 2, .int .i64 xr, .int .i64 xn, .int .i64 xb, .int .u64 xv, .slice ua xl.length uc, .int .i64 xek, .int .i64 xec] 57 (0, 0)) → (fun w' : World => w'.cell? ⟨w.heap.size, 2, none⟩ = some (.int .i64 xn)) w') := Lib.hid (fun w' h => cell_of_heap h rfl)
  have HB2 : Hid ((w.alloc (.cells #[.int .i64 2, .int .i64 xr, .int .i64 xn, .int .i64 xb, .int .u64 xv, .slice ua xl.length uc, .int .i64 xek, .int .i64 xec] 57)).drew.heap[w.heap.size]? = some (.cells #[.int .i64 2, .int .i64 xr, .int .i64 xn, .int .i64 xb, .int .u64 xv, .slice ua xl.length uc, .int .i64 xek, .int .i64 xec] 57 (0, 0))) := Lib.hid HB1.out
  have S2 := Lib.hid (SC.out _ HB2.out)
  refine Lex.region [3, 7] [10] (by kernel_rfl) (by kernel_rfl) ?_
  refine Lex.opens (fun w' : World => w'.cell? ⟨w.heap.size, 2, none⟩ = some (.int .i64 xn)) (S2.out) ?_
  repeat (first
    | (refine Lex.skips (by rfl) ?_; (try simp only [Act.put, List.setIfInBounds_toArray, List.set_cons_zero, List.set_cons_succ]))
    | (refine Lex.quiet (v := ?_) (by rfl) (by rfl) ?_ ?_; rotate_left; (focus (intro w' hS'; go_simp; try rfl)); (try simp only [Act.put, List.setIfInBounds_toArray, List.set_cons_zero, List.set_cons_succ])))
  refine Lex.loud (by rfl) (by rfl) ?_
  intro K' hK'
  go_simp
  refine (HD2.out.call1 (fun O R z h => sgo_ok _ xn h)).mono ?_
  rintro e w3 ⟨rfl, hd3, r3⟩
  have HD3 := Lib.hid hd3
  have HB3 := Lib.hid (r3.heap HB2.out HXB.out)
  have S3 := Lib.hid (SC.out _ HB3.out)
  clear hd3 r3
  refine hK' _ _ (S3.out) ?_
  clear hK'
  try simp only [Act.put, List.setIfInBounds_toArray, List.set_cons_zero, List.set_cons_succ]
  repeat (first
    | (refine Lex.skips (by rfl) ?_; (try simp only [Act.put, List.setIfInBounds_toArray, List.set_cons_zero, List.set_cons_succ]))
    | (refine Lex.quiet (v := ?_) (by rfl) (by rfl) ?_ ?_; rotate_left; (focus (intro w' hS'; go_simp; try rfl)); (try simp only [Act.put, List.setIfInBounds_toArray, List.set_cons_zero, List.set_cons_succ])))
  refine Lex.loud (by rfl) (by rfl) ?_
  intro K' hK'
  go_simp
  refine (HD3.out.call2 (fun O R z h => rgo_ok _ xn h)).mono ?_
  rintro e w4 ⟨rfl, hd4, r4⟩
  have HD4 := Lib.hid hd4
  have HB4 := Lib.hid (r4.heap HB3.out HXB.out)
  have S4 := Lib.hid (SC.out _ HB4.out)
  clear hd4 r4
  refine hK' _ _ (S4.out) ?_
  clear hK'
  try simp only [Act.put, List.setIfInBounds_toArray, List.set_cons_zero, List.set_cons_succ]
  repeat (first
    | (refine Lex.skips (by rfl) ?_; (try simp only [Act.put, List.setIfInBounds_toArray, List.set_cons_zero, List.set_cons_succ]))
    | (refine Lex.quiet (v := ?_) (by rfl) (by rfl) ?_ ?_; rotate_left; (focus (intro w' hS'; go_simp; try rfl)); (try simp only [Act.put, List.setIfInBounds_toArray, List.set_cons_zero, List.set_cons_succ])))
  refine Lex.done ?_
  refine Lex.ends ?_
  go_wp2_with fail
  go_ret
  exact ⟨by simp, HD4.out.done⟩
set_option maxHeartbeats 4000000 in
theorem does_3 (w : World) (x : Ax) (ua : Option Addr) (uc : Nat) (hk : x.k = 3) (hr : ∀ w', Fr O w w' → Reads w' (.slice ua x.l.length uc) 1 x.l.length (ints x.l)) (hf : x.Fine) (hd : s.ds.length < 100000) (h : Both (SpT p s) (RSpT q s) O R w) :
    Calls Tryz.prog 36 #[.pointer (some ⟨p, 0, none⟩), .pointer (some ⟨q, 0, none⟩), .agg #[.int .i64 x.k, .int .i64 x.r, .int .i64 x.n, .int .i64 x.b, .int .u64 x.v, .slice ua x.l.length uc, .int .i64 x.ek, .int .i64 x.ec]] w fun e w' => e = .returned (.bool true) ∧ ThTo w w' O R (Both (SpT p (s.burnS x.n).1) (RSpT q (s.burnS x.n).1)) := by
  obtain ⟨xk, xr, xn, xb, xv, xl, xek, xec⟩ := x
  dsimp only at *
  subst hk
  have HF := Lib.hid hf
  have HD := Lib.hid hd
  have r1 := (Fr.refl no w).alloc (.cells #[.int .i64 3, .int .i64 xr, .int .i64 xn, .int .i64 xb, .int .u64 xv, .slice ua xl.length uc, .int .i64 xek, .int .i64 xec] 57)
  have hb1 := heap_new w (.cells #[.int .i64 3, .int .i64 xr, .int .i64 xn, .int .i64 xb, .int .u64 xv, .slice ua xl.length uc, .int .i64 xek, .int .i64 xec] 57)
  have HB1 := Lib.hid hb1
  have HD1 := Lib.hid (DoAt.start h r1)
  have HXB : Hid (¬ (O w.heap.size ∨ (w.heap.size ≤ w.heap.size ∧ ¬ (w.heap.size ≤ w.heap.size ∧ w.heap.size < (w.alloc (.cells #[.int .i64 3, .int .i64 xr, .int .i64 xn, .int .i64 xb, .int .u64 xv, .slice ua xl.length uc, .int .i64 xek, .int .i64 xec] 57)).heap.size)))) := Lib.hid (fun hx => by
    rcases hx with hx | hx
    · have := HD1.out.olt _ hx; omega
    · exact hx.2 ⟨Nat.le_refl _, (Array.getElem?_eq_some_iff.1 hb1).1⟩)
  clear r1 h hf hd hb1
  go_enter Tryz.func36, Tryz.ntmps36
  go_upto_region 11 with (fail)
  have HD2 := Lib.hid (HD1.out.soft (Fr.refl no _).drew)
  have SC : Hid (∀ w' : World, w'.heap[w.heap.size]? = some (.cells #[.int .i64 3, .int .i64 xr, .int .i64 xn, .int .i64 xb, .int .u64 xv, .slice ua xl.length uc, .int .i64 xek, .int .i64 xec] 57 (0, 0)) → (fun w' : World => w'.cell? ⟨w.heap.size, 2, none⟩ = some (.int .i64 xn)) w') := Lib.hid (fun w' h => cell_of_heap h rfl)
  have HB2 : Hid ((w.alloc (.cells #[.int .i64 3, .int .i64 xr, .int .i64 xn, .int .i64 xb, .int .u64 xv, .slice ua xl.length uc, .int .i64 xek, .int .i64 xec] 57)).drew.heap[w.heap.size]? = some (.cells #[.int .i64 3, .int .i64 xr, .int .i64 xn, .int .i64 xb, .int .u64 xv, .slice ua xl.length uc, .int .i64 xek, .int .i64 xec] 57 (0, 0))) := Lib.hid HB1.out
  have S2 := Lib.hid (SC.out _ HB2.out)
  refine Lex.region [3, 7] [10] (by kernel_rfl) (by kernel_rfl) ?_
  refine Lex.opens (fun w' : World => w'.cell? ⟨w.heap.size, 2, none⟩ = some (.int .i64 xn)) (S2.out) ?_
  repeat (first
    | (refine Lex.skips (by rfl) ?_; (try simp only [Act.put, List.setIfInBounds_toArray, List.set_cons_zero, List.set_cons_succ]))
    | (refine Lex.quiet (v := ?_) (by rfl) (by rfl) ?_ ?_; rotate_left; (focus (intro w' hS'; go_simp; try rfl)); (try simp only [Act.put, List.setIfInBounds_toArray, List.set_cons_zero, List.set_cons_succ])))
  refine Lex.loud (by rfl) (by rfl) ?_
  intro K' hK'
  go_simp
  refine (HD2.out.call1 (fun O R z h => sburn_ok _ xn HF.out.n0 h)).mono ?_
  rintro e w3 ⟨rfl, hd3, r3⟩
  have HD3 := Lib.hid hd3
  have HB3 := Lib.hid (r3.heap HB2.out HXB.out)
  have S3 := Lib.hid (SC.out _ HB3.out)
  clear hd3 r3
  refine hK' _ _ (S3.out) ?_
  clear hK'
  try simp only [Act.put, List.setIfInBounds_toArray, List.set_cons_zero, List.set_cons_succ]
  repeat (first
    | (refine Lex.skips (by rfl) ?_; (try simp only [Act.put, List.setIfInBounds_toArray, List.set_cons_zero, List.set_cons_succ]))
    | (refine Lex.quiet (v := ?_) (by rfl) (by rfl) ?_ ?_; rotate_left; (focus (intro w' hS'; go_simp; try rfl)); (try simp only [Act.put, List.setIfInBounds_toArray, List.set_cons_zero, List.set_cons_succ])))
  refine Lex.loud (by rfl) (by rfl) ?_
  intro K' hK'
  go_simp
  refine (HD3.out.call2 (fun O R z h => rburn_ok _ xn HF.out.n0 h)).mono ?_
  rintro e w4 ⟨rfl, hd4, r4⟩
  have HD4 := Lib.hid hd4
  have HB4 := Lib.hid (r4.heap HB3.out HXB.out)
  have S4 := Lib.hid (SC.out _ HB4.out)
  clear hd4 r4
  refine hK' _ _ (S4.out) ?_
  clear hK'
  try simp only [Act.put, List.setIfInBounds_toArray, List.set_cons_zero, List.set_cons_succ]
  repeat (first
    | (refine Lex.skips (by rfl) ?_; (try simp only [Act.put, List.setIfInBounds_toArray, List.set_cons_zero, List.set_cons_succ]))
    | (refine Lex.quiet (v := ?_) (by rfl) (by rfl) ?_ ?_; rotate_left; (focus (intro w' hS'; go_simp; try rfl)); (try simp only [Act.put, List.setIfInBounds_toArray, List.set_cons_zero, List.set_cons_succ])))
  refine Lex.done ?_
  refine Lex.ends ?_
  go_wp2_with fail
  go_ret
  exact ⟨by simp, HD4.out.done⟩
set_option maxHeartbeats 4000000 in
theorem does_4 (w : World) (x : Ax) (ua : Option Addr) (uc : Nat) (hk : x.k = 4) (hr : ∀ w', Fr O w w' → Reads w' (.slice ua x.l.length uc) 1 x.l.length (ints x.l)) (hf : x.Fine) (hd : s.ds.length < 100000) (hal : x.l.length ≤ 1000000) (h : Both (SpT p s) (RSpT q s) O R w) :
    Calls Tryz.prog 36 #[.pointer (some ⟨p, 0, none⟩), .pointer (some ⟨q, 0, none⟩), .agg #[.int .i64 x.k, .int .i64 x.r, .int .i64 x.n, .int .i64 x.b, .int .u64 x.v, .slice ua x.l.length uc, .int .i64 x.ek, .int .i64 x.ec]] w fun e w' => e = .returned (.bool true) ∧ ThTo w w' O R (Both (SpT p (s.callS x.n x.l x.r x.b).1) (RSpT q (s.callS x.n x.l x.r x.b).1)) := by
  obtain ⟨xk, xr, xn, xb, xv, xl, xek, xec⟩ := x
  dsimp only at *
  subst hk
  have HF := Lib.hid hf
  have HAL : Hid (xl.length ≤ 1000000) := Lib.hid hal
  have HD := Lib.hid hd
  have r1 := (Fr.refl no w).alloc (.cells #[.int .i64 4, .int .i64 xr, .int .i64 xn, .int .i64 xb, .int .u64 xv, .slice ua xl.length uc, .int .i64 xek, .int .i64 xec] 57)
  have hb1 := heap_new w (.cells #[.int .i64 4, .int .i64 xr, .int .i64 xn, .int .i64 xb, .int .u64 xv, .slice ua xl.length uc, .int .i64 xek, .int .i64 xec] 57)
  have r2 := (Fr.refl no (w.alloc (.cells #[.int .i64 4, .int .i64 xr, .int .i64 xn, .int .i64 xb, .int .u64 xv, .slice ua xl.length uc, .int .i64 xek, .int .i64 xec] 57))).alloc (.cells #[] 3)
  have ho2 := owns_new (w.alloc (.cells #[.int .i64 4, .int .i64 xr, .int .i64 xn, .int .i64 xb, .int .u64 xv, .slice ua xl.length uc, .int .i64 xek, .int .i64 xec] 57)) 3 1
  rw [World.size_alloc] at ho2
  have HO2 := Lib.hid ho2
  have HB2 := Lib.hid (r2.heap hb1 (by simp))
  have R2 := Lib.hid (r1.trans r2)
  have HRX := Lib.hid hr
  have HL2 := Lib.hid (hr _ (r1.trans r2).to)
  have H := Lib.hid h
  clear r1 hb1 r2 h hf hd hal hr ho2
  go_enter Tryz.func36, Tryz.ntmps36
  go_upto_region 14 with (fail)
  obtain ⟨b0, b1, b2, b3, b4, b5, b6, b7⟩ := cells8n HB2.out
  go_wp2_with (at_builtin; (refine wpList_append_at rfl (.tmp 82) _ 26 rfl (w.heap.size + 1) 3 (.int .i64 0) 1 8 Tryz.underlying26 Tryz.infoInt rfl (by decide) _ 0 _ rfl HO2.out xl.length _ HL2.out (ints_one' xl) (by unfold maxLen; have := HAL.out; omega) (by have := HAL.out; omega) (by simp only [World.size_alloc]; omega) ?_); intro ga gc w3 ho hg hb)
  clear hb
  have hb3 := ((Fr.refl (fun k => (Value.slice (some ⟨w.heap.size + 1, 0, none⟩) 0 0).ownBlock = some k) _).grown hg (fun k hk => .inl hk)).heap HB2.out (fun h => by simp [Value.ownBlock] at h)
  have R3 : Fr no w w3 := R2.out.trans' ((Fr.refl (fun k => (Value.slice (some ⟨w.heap.size + 1, 0, none⟩) 0 0).ownBlock = some k) _).grown hg (fun k hk => .inl hk)) (fun k hk _ => by simp [Value.ownBlock] at hk; omega)
  have HI3 : Hid (w3.ownsRow (w.heap.size + 1) 3 1 (.slice ga xl.length gc) xl.length (ints xl)) := Lib.hid (by simpa using ho)
  have HD3 := Lib.hid (DoAt.start H.out R3)
  have HB3 := Lib.hid hb3
  have HXB : Hid (¬ (O w.heap.size ∨ (w.heap.size ≤ w.heap.size ∧ ¬ (w.heap.size ≤ w.heap.size ∧ w.heap.size < w3.heap.size)))) := Lib.hid (fun hx => by
    rcases hx with hx | hx
    · have := HD3.out.olt _ hx; omega
    · exact hx.2 ⟨Nat.le_refl _, (Array.getElem?_eq_some_iff.1 hb3).1⟩)
  have HIB : Hid (∀ k, (Value.slice ga xl.length gc).ownBlock = some k → ¬ (O k ∨ (w.heap.size ≤ k ∧ ¬ (w.heap.size ≤ k ∧ k < w3.heap.size)))) := Lib.hid (fun k hk hx => by
    have h1 := HI3.out.lt k hk
    rcases hx with hx | hx
    · have := HD3.out.olt _ hx; omega
    · exact hx.2 ⟨hx.1, h1.2⟩)
  clear ho hg hb3 R3 b0 b1 b2 b3 b4 b5 b6 b7
  go_upto_region 15 with (fail)
  have HD5 := Lib.hid (HD3.out.soft (Fr.refl no _).drew)
  have HI5 : Hid (w3.drew.ownsRow (w.heap.size + 1) 3 1 (.slice ga xl.length gc) xl.length (ints xl)) := Lib.hid (owns_fr HI3.out (Fr.refl no w3).drew (by simp))
  have HB5 : Hid (w3.drew.heap[w.heap.size]? = some (.cells #[.int .i64 4, .int .i64 xr, .int .i64 xn, .int .i64 xb, .int .u64 xv, .slice ua xl.length uc, .int .i64 xek, .int .i64 xec] 57 (0, 0))) := Lib.hid HB3.out
  have SC : Hid (∀ w' : World, w'.heap[w.heap.size]? = some (.cells #[.int .i64 4, .int .i64 xr, .int .i64 xn, .int .i64 xb, .int .u64 xv, .slice ua xl.length uc, .int .i64 xek, .int .i64 xec] 57 (0, 0)) → (fun w' : World => w'.cell? ⟨w.heap.size, 2, none⟩ = some (.int .i64 xn) ∧ w'.cell? ⟨w.heap.size, 1, none⟩ = some (.int .i64 xr) ∧ w'.cell? ⟨w.heap.size, 3, none⟩ = some (.int .i64 xb) ∧ w'.cell? ⟨w.heap.size, 5, none⟩ = some (.slice ua xl.length uc)) w') := Lib.hid (fun w' h => ⟨cell_of_heap h rfl, cell_of_heap h rfl, cell_of_heap h rfl, cell_of_heap h rfl⟩)
  have S5 := Lib.hid (SC.out _ HB5.out)
  refine Lex.region [8, 18, 24] [27] (by kernel_rfl) (by kernel_rfl) ?_
  refine Lex.opens (fun w' : World => w'.cell? ⟨w.heap.size, 2, none⟩ = some (.int .i64 xn) ∧ w'.cell? ⟨w.heap.size, 1, none⟩ = some (.int .i64 xr) ∧ w'.cell? ⟨w.heap.size, 3, none⟩ = some (.int .i64 xb) ∧ w'.cell? ⟨w.heap.size, 5, none⟩ = some (.slice ua xl.length uc)) (S5.out) ?_
  repeat (first
    | (refine Lex.skips (by rfl) ?_; (try simp only [Act.put, List.setIfInBounds_toArray, List.set_cons_zero, List.set_cons_succ]))
    | (refine Lex.quiet (v := ?_) (by rfl) (by rfl) ?_ ?_; rotate_left; (focus (intro w' hS'; go_simp; try rfl)); (try simp only [Act.put, List.setIfInBounds_toArray, List.set_cons_zero, List.set_cons_succ])))
  refine Lex.loud (by rfl) (by rfl) ?_
  intro K' hK'
  go_simp
  refine (HD5.out.call1 (fun O R z h => scall_ok _ h HAL.out (owns_reads HI5.out))).mono ?_
  rintro e w6 ⟨rfl, hd6, r6⟩
  have HD6 := Lib.hid hd6
  have HB6 := Lib.hid (r6.heap HB5.out HXB.out)
  have HI6 := Lib.hid (owns_fr HI5.out r6 HIB.out)
  have S6 := Lib.hid (SC.out _ HB6.out)
  have HR6 := Lib.hid (HRX.out _ hd6.fr)
  clear hd6 r6
  refine hK' _ _ (S6.out) ?_
  clear hK'
  try simp only [Act.put, List.setIfInBounds_toArray, List.set_cons_zero, List.set_cons_succ]
  repeat (first
    | (refine Lex.skips (by rfl) ?_; (try simp only [Act.put, List.setIfInBounds_toArray, List.set_cons_zero, List.set_cons_succ]))
    | (refine Lex.quiet (v := ?_) (by rfl) (by rfl) ?_ ?_; rotate_left; (focus (intro w' hS'; go_simp; try rfl)); (try simp only [Act.put, List.setIfInBounds_toArray, List.set_cons_zero, List.set_cons_succ])))
  refine Lex.loud (by rfl) (by rfl) ?_
  intro K' hK'
  go_simp
  refine (HD6.out.call2 (fun O R z h => rcall_ok _ h HAL.out HR6.out)).mono ?_
  rintro e w7 ⟨rfl, hd7, r7⟩
  have HD7 := Lib.hid hd7
  have HB7 := Lib.hid (r7.heap HB6.out HXB.out)
  have HI7 := Lib.hid (owns_reads (owns_fr HI6.out r7 HIB.out))
  have S7 := Lib.hid (SC.out _ HB7.out)
  have HR7 := Lib.hid (HRX.out _ hd7.fr)
  clear hd7 r7
  refine hK' _ _ (S7.out) ?_
  clear hK'
  try simp only [Act.put, List.setIfInBounds_toArray, List.set_cons_zero, List.set_cons_succ]
  repeat (first
    | (refine Lex.skips (by rfl) ?_; (try simp only [Act.put, List.setIfInBounds_toArray, List.set_cons_zero, List.set_cons_succ]))
    | (refine Lex.quiet (v := ?_) (by rfl) (by rfl) ?_ ?_; rotate_left; (focus (intro w' hS'; go_simp; try rfl)); (try simp only [Act.put, List.setIfInBounds_toArray, List.set_cons_zero, List.set_cons_succ])))
  refine Lex.loud (by rfl) (by rfl) ?_
  intro K' hK'
  go_simp
  refine (same_ints w7 _ _ xl xl HI7.out HR7.out HAL.out).mono ?_
  rintro e w8 ⟨rfl, qd, rfl⟩
  have HD8 := Lib.hid (HD7.out.soft ((Fr.refl no w7).drewN qd))
  have S8 := Lib.hid (SC.out (w7.drewN qd) HB7.out)
  refine hK' _ _ (S8.out) ?_
  clear hK'
  try simp only [Act.put, List.setIfInBounds_toArray, List.set_cons_zero, List.set_cons_succ]
  repeat (first
    | (refine Lex.skips (by rfl) ?_; (try simp only [Act.put, List.setIfInBounds_toArray, List.set_cons_zero, List.set_cons_succ]))
    | (refine Lex.quiet (v := ?_) (by rfl) (by rfl) ?_ ?_; rotate_left; (focus (intro w' hS'; go_simp; try rfl)); (try simp only [Act.put, List.setIfInBounds_toArray, List.set_cons_zero, List.set_cons_succ])))
  refine Lex.done ?_
  refine Lex.ends ?_
  go_wp2_with fail
  go_ret
  exact ⟨by simp, HD8.out.done⟩
set_option maxHeartbeats 4000000 in
theorem does_5 (w : World) (x : Ax) (ua : Option Addr) (uc : Nat) (hk : x.k = 5) (hr : ∀ w', Fr O w w' → Reads w' (.slice ua x.l.length uc) 1 x.l.length (ints x.l)) (hf : x.Fine) (hd : s.ds.length < 100000) (hal : x.l.length ≤ 1000000) (h : Both (SpT p s) (RSpT q s) O R w) :
    Calls Tryz.prog 36 #[.pointer (some ⟨p, 0, none⟩), .pointer (some ⟨q, 0, none⟩), .agg #[.int .i64 x.k, .int .i64 x.r, .int .i64 x.n, .int .i64 x.b, .int .u64 x.v, .slice ua x.l.length uc, .int .i64 x.ek, .int .i64 x.ec]] w fun e w' => e = .returned (.bool true) ∧ ThTo w w' O R (Both (SpT p (s.callS x.n x.l x.r x.b).1) (RSpT q (s.callS x.n x.l x.r x.b).1)) := by
  obtain ⟨xk, xr, xn, xb, xv, xl, xek, xec⟩ := x
  dsimp only at *
  subst hk
  have HF := Lib.hid hf
  have HAL : Hid (xl.length ≤ 1000000) := Lib.hid hal
  have HD := Lib.hid hd
  have r1 := (Fr.refl no w).alloc (.cells #[.int .i64 5, .int .i64 xr, .int .i64 xn, .int .i64 xb, .int .u64 xv, .slice ua xl.length uc, .int .i64 xek, .int .i64 xec] 57)
  have hb1 := heap_new w (.cells #[.int .i64 5, .int .i64 xr, .int .i64 xn, .int .i64 xb, .int .u64 xv, .slice ua xl.length uc, .int .i64 xek, .int .i64 xec] 57)
  have r2 := (Fr.refl no (w.alloc (.cells #[.int .i64 5, .int .i64 xr, .int .i64 xn, .int .i64 xb, .int .u64 xv, .slice ua xl.length uc, .int .i64 xek, .int .i64 xec] 57))).alloc (.cells #[] 3)
  have ho2 := owns_new (w.alloc (.cells #[.int .i64 5, .int .i64 xr, .int .i64 xn, .int .i64 xb, .int .u64 xv, .slice ua xl.length uc, .int .i64 xek, .int .i64 xec] 57)) 3 1
  rw [World.size_alloc] at ho2
  have HO2 := Lib.hid ho2
  have HB2 := Lib.hid (r2.heap hb1 (by simp))
  have R2 := Lib.hid (r1.trans r2)
  have HRX := Lib.hid hr
  have HL2 := Lib.hid (hr _ (r1.trans r2).to)
  have H := Lib.hid h
  clear r1 hb1 r2 h hf hd hal hr ho2
  go_enter Tryz.func36, Tryz.ntmps36
  go_upto_region 14 with (fail)
  obtain ⟨b0, b1, b2, b3, b4, b5, b6, b7⟩ := cells8n HB2.out
  go_wp2_with (at_builtin; (refine wpList_append_at rfl (.tmp 82) _ 26 rfl (w.heap.size + 1) 3 (.int .i64 0) 1 8 Tryz.underlying26 Tryz.infoInt rfl (by decide) _ 0 _ rfl HO2.out xl.length _ HL2.out (ints_one' xl) (by unfold maxLen; have := HAL.out; omega) (by have := HAL.out; omega) (by simp only [World.size_alloc]; omega) ?_); intro ga gc w3 ho hg hb)
  clear hb
  have hb3 := ((Fr.refl (fun k => (Value.slice (some ⟨w.heap.size + 1, 0, none⟩) 0 0).ownBlock = some k) _).grown hg (fun k hk => .inl hk)).heap HB2.out (fun h => by simp [Value.ownBlock] at h)
  have R3 : Fr no w w3 := R2.out.trans' ((Fr.refl (fun k => (Value.slice (some ⟨w.heap.size + 1, 0, none⟩) 0 0).ownBlock = some k) _).grown hg (fun k hk => .inl hk)) (fun k hk _ => by simp [Value.ownBlock] at hk; omega)
  have HI3 : Hid (w3.ownsRow (w.heap.size + 1) 3 1 (.slice ga xl.length gc) xl.length (ints xl)) := Lib.hid (by simpa using ho)
  have HD3 := Lib.hid (DoAt.start H.out R3)
  have HB3 := Lib.hid hb3
  have HXB : Hid (¬ (O w.heap.size ∨ (w.heap.size ≤ w.heap.size ∧ ¬ (w.heap.size ≤ w.heap.size ∧ w.heap.size < w3.heap.size)))) := Lib.hid (fun hx => by
    rcases hx with hx | hx
    · have := HD3.out.olt _ hx; omega
    · exact hx.2 ⟨Nat.le_refl _, (Array.getElem?_eq_some_iff.1 hb3).1⟩)
  have HIB : Hid (∀ k, (Value.slice ga xl.length gc).ownBlock = some k → ¬ (O k ∨ (w.heap.size ≤ k ∧ ¬ (w.heap.size ≤ k ∧ k < w3.heap.size)))) := Lib.hid (fun k hk hx => by
    have h1 := HI3.out.lt k hk
    rcases hx with hx | hx
    · have := HD3.out.olt _ hx; omega
    · exact hx.2 ⟨hx.1, h1.2⟩)
  clear ho hg hb3 R3 b0 b1 b2 b3 b4 b5 b6 b7
  go_upto_region 15 with (fail)
  have HD5 := Lib.hid (HD3.out.soft (Fr.refl no _).drew)
  have HI5 : Hid (w3.drew.ownsRow (w.heap.size + 1) 3 1 (.slice ga xl.length gc) xl.length (ints xl)) := Lib.hid (owns_fr HI3.out (Fr.refl no w3).drew (by simp))
  have HB5 : Hid (w3.drew.heap[w.heap.size]? = some (.cells #[.int .i64 5, .int .i64 xr, .int .i64 xn, .int .i64 xb, .int .u64 xv, .slice ua xl.length uc, .int .i64 xek, .int .i64 xec] 57 (0, 0))) := Lib.hid HB3.out
  have SC : Hid (∀ w' : World, w'.heap[w.heap.size]? = some (.cells #[.int .i64 5, .int .i64 xr, .int .i64 xn, .int .i64 xb, .int .u64 xv, .slice ua xl.length uc, .int .i64 xek, .int .i64 xec] 57 (0, 0)) → (fun w' : World => w'.cell? ⟨w.heap.size, 2, none⟩ = some (.int .i64 xn) ∧ w'.cell? ⟨w.heap.size, 1, none⟩ = some (.int .i64 xr) ∧ w'.cell? ⟨w.heap.size, 3, none⟩ = some (.int .i64 xb) ∧ w'.cell? ⟨w.heap.size, 5, none⟩ = some (.slice ua xl.length uc)) w') := Lib.hid (fun w' h => ⟨cell_of_heap h rfl, cell_of_heap h rfl, cell_of_heap h rfl, cell_of_heap h rfl⟩)
  have S5 := Lib.hid (SC.out _ HB5.out)
  refine Lex.region [8, 18, 24] [27] (by kernel_rfl) (by kernel_rfl) ?_
  refine Lex.opens (fun w' : World => w'.cell? ⟨w.heap.size, 2, none⟩ = some (.int .i64 xn) ∧ w'.cell? ⟨w.heap.size, 1, none⟩ = some (.int .i64 xr) ∧ w'.cell? ⟨w.heap.size, 3, none⟩ = some (.int .i64 xb) ∧ w'.cell? ⟨w.heap.size, 5, none⟩ = some (.slice ua xl.length uc)) (S5.out) ?_
  repeat (first
    | (refine Lex.skips (by rfl) ?_; (try simp only [Act.put, List.setIfInBounds_toArray, List.set_cons_zero, List.set_cons_succ]))
    | (refine Lex.quiet (v := ?_) (by rfl) (by rfl) ?_ ?_; rotate_left; (focus (intro w' hS'; go_simp; try rfl)); (try simp only [Act.put, List.setIfInBounds_toArray, List.set_cons_zero, List.set_cons_succ])))
  refine Lex.loud (by rfl) (by rfl) ?_
  intro K' hK'
  go_simp
  refine (HD5.out.call1 (fun O R z h => scall_ok _ h HAL.out (owns_reads HI5.out))).mono ?_
  rintro e w6 ⟨rfl, hd6, r6⟩
  have HD6 := Lib.hid hd6
  have HB6 := Lib.hid (r6.heap HB5.out HXB.out)
  have HI6 := Lib.hid (owns_fr HI5.out r6 HIB.out)
  have S6 := Lib.hid (SC.out _ HB6.out)
  have HR6 := Lib.hid (HRX.out _ hd6.fr)
  clear hd6 r6
  refine hK' _ _ (S6.out) ?_
  clear hK'
  try simp only [Act.put, List.setIfInBounds_toArray, List.set_cons_zero, List.set_cons_succ]
  repeat (first
    | (refine Lex.skips (by rfl) ?_; (try simp only [Act.put, List.setIfInBounds_toArray, List.set_cons_zero, List.set_cons_succ]))
    | (refine Lex.quiet (v := ?_) (by rfl) (by rfl) ?_ ?_; rotate_left; (focus (intro w' hS'; go_simp; try rfl)); (try simp only [Act.put, List.setIfInBounds_toArray, List.set_cons_zero, List.set_cons_succ])))
  refine Lex.loud (by rfl) (by rfl) ?_
  intro K' hK'
  go_simp
  refine (HD6.out.call2 (fun O R z h => rcall_ok _ h HAL.out HR6.out)).mono ?_
  rintro e w7 ⟨rfl, hd7, r7⟩
  have HD7 := Lib.hid hd7
  have HB7 := Lib.hid (r7.heap HB6.out HXB.out)
  have HI7 := Lib.hid (owns_reads (owns_fr HI6.out r7 HIB.out))
  have S7 := Lib.hid (SC.out _ HB7.out)
  have HR7 := Lib.hid (HRX.out _ hd7.fr)
  clear hd7 r7
  refine hK' _ _ (S7.out) ?_
  clear hK'
  try simp only [Act.put, List.setIfInBounds_toArray, List.set_cons_zero, List.set_cons_succ]
  repeat (first
    | (refine Lex.skips (by rfl) ?_; (try simp only [Act.put, List.setIfInBounds_toArray, List.set_cons_zero, List.set_cons_succ]))
    | (refine Lex.quiet (v := ?_) (by rfl) (by rfl) ?_ ?_; rotate_left; (focus (intro w' hS'; go_simp; try rfl)); (try simp only [Act.put, List.setIfInBounds_toArray, List.set_cons_zero, List.set_cons_succ])))
  refine Lex.loud (by rfl) (by rfl) ?_
  intro K' hK'
  go_simp
  refine (same_ints w7 _ _ xl xl HI7.out HR7.out HAL.out).mono ?_
  rintro e w8 ⟨rfl, qd, rfl⟩
  have HD8 := Lib.hid (HD7.out.soft ((Fr.refl no w7).drewN qd))
  have S8 := Lib.hid (SC.out (w7.drewN qd) HB7.out)
  refine hK' _ _ (S8.out) ?_
  clear hK'
  try simp only [Act.put, List.setIfInBounds_toArray, List.set_cons_zero, List.set_cons_succ]
  repeat (first
    | (refine Lex.skips (by rfl) ?_; (try simp only [Act.put, List.setIfInBounds_toArray, List.set_cons_zero, List.set_cons_succ]))
    | (refine Lex.quiet (v := ?_) (by rfl) (by rfl) ?_ ?_; rotate_left; (focus (intro w' hS'; go_simp; try rfl)); (try simp only [Act.put, List.setIfInBounds_toArray, List.set_cons_zero, List.set_cons_succ])))
  refine Lex.done ?_
  refine Lex.ends ?_
  go_wp2_with fail
  go_ret
  exact ⟨by simp, HD8.out.done⟩
set_option maxHeartbeats 4000000 in
theorem does_6 (w : World) (x : Ax) (ua : Option Addr) (uc : Nat) (hk : x.k = 6) (hr : ∀ w', Fr O w w' → Reads w' (.slice ua x.l.length uc) 1 x.l.length (ints x.l)) (hf : x.Fine) (hd : s.ds.length < 100000) (h : Both (SpT p s) (RSpT q s) O R w) :
    Calls Tryz.prog 36 #[.pointer (some ⟨p, 0, none⟩), .pointer (some ⟨q, 0, none⟩), .agg #[.int .i64 x.k, .int .i64 x.r, .int .i64 x.n, .int .i64 x.b, .int .u64 x.v, .slice ua x.l.length uc, .int .i64 x.ek, .int .i64 x.ec]] w fun e w' => e = .returned (.bool true) ∧ ThTo w w' O R (Both (SpT p (s.retS x.v).1) (RSpT q (s.retS x.v).1)) := by
  obtain ⟨xk, xr, xn, xb, xv, xl, xek, xec⟩ := x
  dsimp only at *
  subst hk
  have HF := Lib.hid hf
  have HD := Lib.hid hd
  have r1 := (Fr.refl no w).alloc (.cells #[.int .i64 6, .int .i64 xr, .int .i64 xn, .int .i64 xb, .int .u64 xv, .slice ua xl.length uc, .int .i64 xek, .int .i64 xec] 57)
  have hb1 := heap_new w (.cells #[.int .i64 6, .int .i64 xr, .int .i64 xn, .int .i64 xb, .int .u64 xv, .slice ua xl.length uc, .int .i64 xek, .int .i64 xec] 57)
  have HB1 := Lib.hid hb1
  have HD1 := Lib.hid (DoAt.start h r1)
  have HXB : Hid (¬ (O w.heap.size ∨ (w.heap.size ≤ w.heap.size ∧ ¬ (w.heap.size ≤ w.heap.size ∧ w.heap.size < (w.alloc (.cells #[.int .i64 6, .int .i64 xr, .int .i64 xn, .int .i64 xb, .int .u64 xv, .slice ua xl.length uc, .int .i64 xek, .int .i64 xec] 57)).heap.size)))) := Lib.hid (fun hx => by
    rcases hx with hx | hx
    · have := HD1.out.olt _ hx; omega
    · exact hx.2 ⟨Nat.le_refl _, (Array.getElem?_eq_some_iff.1 hb1).1⟩)
  clear r1 h hf hd hb1
  go_enter Tryz.func36, Tryz.ntmps36
  go_upto_region 17 with (fail)
  have HD2 := Lib.hid (HD1.out.soft (Fr.refl no _).drew)
  have SC : Hid (∀ w' : World, w'.heap[w.heap.size]? = some (.cells #[.int .i64 6, .int .i64 xr, .int .i64 xn, .int .i64 xb, .int .u64 xv, .slice ua xl.length uc, .int .i64 xek, .int .i64 xec] 57 (0, 0)) → (fun w' : World => w'.cell? ⟨w.heap.size, 4, none⟩ = some (.int .u64 xv)) w') := Lib.hid (fun w' h => cell_of_heap h rfl)
  have HB2 : Hid ((w.alloc (.cells #[.int .i64 6, .int .i64 xr, .int .i64 xn, .int .i64 xb, .int .u64 xv, .slice ua xl.length uc, .int .i64 xek, .int .i64 xec] 57)).drew.heap[w.heap.size]? = some (.cells #[.int .i64 6, .int .i64 xr, .int .i64 xn, .int .i64 xb, .int .u64 xv, .slice ua xl.length uc, .int .i64 xek, .int .i64 xec] 57 (0, 0))) := Lib.hid HB1.out
  have S2 := Lib.hid (SC.out _ HB2.out)
  refine Lex.region [3, 7] [10] (by kernel_rfl) (by kernel_rfl) ?_
  refine Lex.opens (fun w' : World => w'.cell? ⟨w.heap.size, 4, none⟩ = some (.int .u64 xv)) (S2.out) ?_
  repeat (first
    | (refine Lex.skips (by rfl) ?_; (try simp only [Act.put, List.setIfInBounds_toArray, List.set_cons_zero, List.set_cons_succ]))
    | (refine Lex.quiet (v := ?_) (by rfl) (by rfl) ?_ ?_; rotate_left; (focus (intro w' hS'; go_simp; try rfl)); (try simp only [Act.put, List.setIfInBounds_toArray, List.set_cons_zero, List.set_cons_succ])))
  refine Lex.loud (by rfl) (by rfl) ?_
  intro K' hK'
  go_simp
  refine (HD2.out.call1 (fun O R z h => sreturn_ok _ xv HF.out.v1 h)).mono ?_
  rintro e w3 ⟨rfl, hd3, r3⟩
  have HD3 := Lib.hid hd3
  have HB3 := Lib.hid (r3.heap HB2.out HXB.out)
  have S3 := Lib.hid (SC.out _ HB3.out)
  clear hd3 r3
  refine hK' _ _ (S3.out) ?_
  clear hK'
  try simp only [Act.put, List.setIfInBounds_toArray, List.set_cons_zero, List.set_cons_succ]
  repeat (first
    | (refine Lex.skips (by rfl) ?_; (try simp only [Act.put, List.setIfInBounds_toArray, List.set_cons_zero, List.set_cons_succ]))
    | (refine Lex.quiet (v := ?_) (by rfl) (by rfl) ?_ ?_; rotate_left; (focus (intro w' hS'; go_simp; try rfl)); (try simp only [Act.put, List.setIfInBounds_toArray, List.set_cons_zero, List.set_cons_succ])))
  refine Lex.loud (by rfl) (by rfl) ?_
  intro K' hK'
  go_simp
  refine (HD3.out.call2 (fun O R z h => rreturn_ok _ xv HF.out.v1 h)).mono ?_
  rintro e w4 ⟨rfl, hd4, r4⟩
  have HD4 := Lib.hid hd4
  have HB4 := Lib.hid (r4.heap HB3.out HXB.out)
  have S4 := Lib.hid (SC.out _ HB4.out)
  clear hd4 r4
  refine hK' _ _ (S4.out) ?_
  clear hK'
  try simp only [Act.put, List.setIfInBounds_toArray, List.set_cons_zero, List.set_cons_succ]
  repeat (first
    | (refine Lex.skips (by rfl) ?_; (try simp only [Act.put, List.setIfInBounds_toArray, List.set_cons_zero, List.set_cons_succ]))
    | (refine Lex.quiet (v := ?_) (by rfl) (by rfl) ?_ ?_; rotate_left; (focus (intro w' hS'; go_simp; try rfl)); (try simp only [Act.put, List.setIfInBounds_toArray, List.set_cons_zero, List.set_cons_succ])))
  refine Lex.done ?_
  refine Lex.ends ?_
  go_wp2_with fail
  go_ret
  exact ⟨by simp, HD4.out.done⟩
set_option maxHeartbeats 4000000 in
theorem does_7 (w : World) (x : Ax) (ua : Option Addr) (uc : Nat) (hk : x.k = 7) (hr : ∀ w', Fr O w w' → Reads w' (.slice ua x.l.length uc) 1 x.l.length (ints x.l)) (hf : x.Fine) (hd : s.ds.length < 100000) (h : Both (SpT p s) (RSpT q s) O R w) :
    Calls Tryz.prog 36 #[.pointer (some ⟨p, 0, none⟩), .pointer (some ⟨q, 0, none⟩), .agg #[.int .i64 x.k, .int .i64 x.r, .int .i64 x.n, .int .i64 x.b, .int .u64 x.v, .slice ua x.l.length uc, .int .i64 x.ek, .int .i64 x.ec]] w fun e w' => e = .returned (.bool true) ∧ ThTo w w' O R (Both (SpT p (s.stopS (x.ek, x.ec)).1) (RSpT q (s.stopS (x.ek, x.ec)).1)) := by
  obtain ⟨xk, xr, xn, xb, xv, xl, xek, xec⟩ := x
  dsimp only at *
  subst hk
  have HF := Lib.hid hf
  have HD := Lib.hid hd
  have r1 := (Fr.refl no w).alloc (.cells #[.int .i64 7, .int .i64 xr, .int .i64 xn, .int .i64 xb, .int .u64 xv, .slice ua xl.length uc, .int .i64 xek, .int .i64 xec] 57)
  have hb1 := heap_new w (.cells #[.int .i64 7, .int .i64 xr, .int .i64 xn, .int .i64 xb, .int .u64 xv, .slice ua xl.length uc, .int .i64 xek, .int .i64 xec] 57)
  have HB1 := Lib.hid hb1
  have HD1 := Lib.hid (DoAt.start h r1)
  have HXB : Hid (¬ (O w.heap.size ∨ (w.heap.size ≤ w.heap.size ∧ ¬ (w.heap.size ≤ w.heap.size ∧ w.heap.size < (w.alloc (.cells #[.int .i64 7, .int .i64 xr, .int .i64 xn, .int .i64 xb, .int .u64 xv, .slice ua xl.length uc, .int .i64 xek, .int .i64 xec] 57)).heap.size)))) := Lib.hid (fun hx => by
    rcases hx with hx | hx
    · have := HD1.out.olt _ hx; omega
    · exact hx.2 ⟨Nat.le_refl _, (Array.getElem?_eq_some_iff.1 hb1).1⟩)
  clear r1 h hf hd hb1
  go_enter Tryz.func36, Tryz.ntmps36
  go_upto_region 19 with (fail)
  have HD2 := Lib.hid (HD1.out.soft (Fr.refl no _).drew)
  have SC : Hid (∀ w' : World, w'.heap[w.heap.size]? = some (.cells #[.int .i64 7, .int .i64 xr, .int .i64 xn, .int .i64 xb, .int .u64 xv, .slice ua xl.length uc, .int .i64 xek, .int .i64 xec] 57 (0, 0)) → (fun w' : World => At w' w.heap.size 6 [.int .i64 xek, .int .i64 xec]) w') := Lib.hid (fun w' h => endAt8 h)
  have HB2 : Hid ((w.alloc (.cells #[.int .i64 7, .int .i64 xr, .int .i64 xn, .int .i64 xb, .int .u64 xv, .slice ua xl.length uc, .int .i64 xek, .int .i64 xec] 57)).drew.heap[w.heap.size]? = some (.cells #[.int .i64 7, .int .i64 xr, .int .i64 xn, .int .i64 xb, .int .u64 xv, .slice ua xl.length uc, .int .i64 xek, .int .i64 xec] 57 (0, 0))) := Lib.hid HB1.out
  have S2 := Lib.hid (SC.out _ HB2.out)
  refine Lex.region [3, 7] [10] (by kernel_rfl) (by kernel_rfl) ?_
  refine Lex.opens (fun w' : World => At w' w.heap.size 6 [.int .i64 xek, .int .i64 xec]) (S2.out) ?_
  repeat (first
    | (refine Lex.skips (by rfl) ?_; (try simp only [Act.put, List.setIfInBounds_toArray, List.set_cons_zero, List.set_cons_succ]))
    | (refine Lex.into (by rfl) (by rfl) _ _ rfl _ _ rfl _ _ ((fun _ h => h)) Tryz.underlying43 rfl (by rw [Tryz.infoEnd]; rfl) ?_; (try simp only [Act.put, List.setIfInBounds_toArray, List.set_cons_zero, List.set_cons_succ]))
    | (refine Lex.quiet (v := ?_) (by rfl) (by rfl) ?_ ?_; rotate_left; (focus (intro w' hS'; go_simp; try rfl)); (try simp only [Act.put, List.setIfInBounds_toArray, List.set_cons_zero, List.set_cons_succ])))
  refine Lex.loud (by rfl) (by rfl) ?_
  intro K' hK'
  go_simp
  refine (HD2.out.call1 (fun O R z h => sstop_ok _ xek xec h)).mono ?_
  rintro e w3 ⟨rfl, hd3, r3⟩
  have HD3 := Lib.hid hd3
  have HB3 := Lib.hid (r3.heap HB2.out HXB.out)
  have S3 := Lib.hid (SC.out _ HB3.out)
  clear hd3 r3
  refine hK' _ _ (S3.out) ?_
  clear hK'
  try simp only [Act.put, List.setIfInBounds_toArray, List.set_cons_zero, List.set_cons_succ]
  repeat (first
    | (refine Lex.skips (by rfl) ?_; (try simp only [Act.put, List.setIfInBounds_toArray, List.set_cons_zero, List.set_cons_succ]))
    | (refine Lex.into (by rfl) (by rfl) _ _ rfl _ _ rfl _ _ ((fun _ h => h)) Tryz.underlying43 rfl (by rw [Tryz.infoEnd]; rfl) ?_; (try simp only [Act.put, List.setIfInBounds_toArray, List.set_cons_zero, List.set_cons_succ]))
    | (refine Lex.quiet (v := ?_) (by rfl) (by rfl) ?_ ?_; rotate_left; (focus (intro w' hS'; go_simp; try rfl)); (try simp only [Act.put, List.setIfInBounds_toArray, List.set_cons_zero, List.set_cons_succ])))
  refine Lex.loud (by rfl) (by rfl) ?_
  intro K' hK'
  go_simp
  refine (HD3.out.call2 (fun O R z h => rstop_ok _ xek xec h)).mono ?_
  rintro e w4 ⟨rfl, hd4, r4⟩
  have HD4 := Lib.hid hd4
  have HB4 := Lib.hid (r4.heap HB3.out HXB.out)
  have S4 := Lib.hid (SC.out _ HB4.out)
  clear hd4 r4
  refine hK' _ _ (S4.out) ?_
  clear hK'
  try simp only [Act.put, List.setIfInBounds_toArray, List.set_cons_zero, List.set_cons_succ]
  repeat (first
    | (refine Lex.skips (by rfl) ?_; (try simp only [Act.put, List.setIfInBounds_toArray, List.set_cons_zero, List.set_cons_succ]))
    | (refine Lex.into (by rfl) (by rfl) _ _ rfl _ _ rfl _ _ ((fun _ h => h)) Tryz.underlying43 rfl (by rw [Tryz.infoEnd]; rfl) ?_; (try simp only [Act.put, List.setIfInBounds_toArray, List.set_cons_zero, List.set_cons_succ]))
    | (refine Lex.quiet (v := ?_) (by rfl) (by rfl) ?_ ?_; rotate_left; (focus (intro w' hS'; go_simp; try rfl)); (try simp only [Act.put, List.setIfInBounds_toArray, List.set_cons_zero, List.set_cons_succ])))
  refine Lex.done ?_
  refine Lex.ends ?_
  go_wp2_with fail
  go_ret
  exact ⟨by simp, HD4.out.done⟩
set_option maxHeartbeats 4000000 in
theorem does_8 (w : World) (x : Ax) (ua : Option Addr) (uc : Nat) (hk : x.k = 8) (hr : ∀ w', Fr O w w' → Reads w' (.slice ua x.l.length uc) 1 x.l.length (ints x.l)) (hf : x.Fine) (hd : s.ds.length < 100000) (h : Both (SpT p s) (RSpT q s) O R w) :
    Calls Tryz.prog 36 #[.pointer (some ⟨p, 0, none⟩), .pointer (some ⟨q, 0, none⟩), .agg #[.int .i64 x.k, .int .i64 x.r, .int .i64 x.n, .int .i64 x.b, .int .u64 x.v, .slice ua x.l.length uc, .int .i64 x.ek, .int .i64 x.ec]] w fun e w' => e = .returned (.bool true) ∧ ThTo w w' O R (Both (SpT p (s.getbS).1) (RSpT q (s.getbS).1)) := by
  obtain ⟨xk, xr, xn, xb, xv, xl, xek, xec⟩ := x
  dsimp only at *
  subst hk
  have HF := Lib.hid hf
  have HD := Lib.hid hd
  have r1 := (Fr.refl no w).alloc (.cells #[.int .i64 8, .int .i64 xr, .int .i64 xn, .int .i64 xb, .int .u64 xv, .slice ua xl.length uc, .int .i64 xek, .int .i64 xec] 57)
  have hb1 := heap_new w (.cells #[.int .i64 8, .int .i64 xr, .int .i64 xn, .int .i64 xb, .int .u64 xv, .slice ua xl.length uc, .int .i64 xek, .int .i64 xec] 57)
  have HB1 := Lib.hid hb1
  have HD1 := Lib.hid (DoAt.start h r1)
  have HXB : Hid (¬ (O w.heap.size ∨ (w.heap.size ≤ w.heap.size ∧ ¬ (w.heap.size ≤ w.heap.size ∧ w.heap.size < (w.alloc (.cells #[.int .i64 8, .int .i64 xr, .int .i64 xn, .int .i64 xb, .int .u64 xv, .slice ua xl.length uc, .int .i64 xek, .int .i64 xec] 57)).heap.size)))) := Lib.hid (fun hx => by
    rcases hx with hx | hx
    · have := HD1.out.olt _ hx; omega
    · exact hx.2 ⟨Nat.le_refl _, (Array.getElem?_eq_some_iff.1 hb1).1⟩)
  clear r1 h hf hd hb1
  go_enter Tryz.func36, Tryz.ntmps36
  obtain ⟨b0, b1, b2, b3, b4, b5, b6, b7⟩ := cells8n HB1.out
  go_wp2_with fail
  refine (HD1.out.call1 (fun O R z h => sgetb_ok _ HD.out h)).mono ?_
  rintro e w3 ⟨rfl, hd3, r3⟩
  have HD3 := Lib.hid hd3
  have HB3 := Lib.hid (r3.heap HB1.out HXB.out)
  clear hd3 r3
  clear b0 b1 b2 b3 b4 b5 b6 b7
  obtain ⟨b0, b1, b2, b3, b4, b5, b6, b7⟩ := cells8n HB3.out
  go_wp2_with fail
  refine (HD3.out.call2 (fun O R z h => rgetb_ok _ HD.out h)).mono ?_
  rintro e w4 ⟨rfl, hd4, r4⟩
  have HD4 := Lib.hid hd4
  clear hd4 r4
  clear b0 b1 b2 b3 b4 b5 b6 b7
  go_wp2_with fail
  go_ret
  exact ⟨by simp, HD4.out.done⟩
set_option maxHeartbeats 4000000 in
theorem does_9 (w : World) (x : Ax) (ua : Option Addr) (uc : Nat) (hk : x.k = 9) (hr : ∀ w', Fr O w w' → Reads w' (.slice ua x.l.length uc) 1 x.l.length (ints x.l)) (hf : x.Fine) (hd : s.ds.length < 100000) (h : Both (SpT p s) (RSpT q s) O R w) :
    Calls Tryz.prog 36 #[.pointer (some ⟨p, 0, none⟩), .pointer (some ⟨q, 0, none⟩), .agg #[.int .i64 x.k, .int .i64 x.r, .int .i64 x.n, .int .i64 x.b, .int .u64 x.v, .slice ua x.l.length uc, .int .i64 x.ek, .int .i64 x.ec]] w fun e w' => e = .returned (.bool true) ∧ ThTo w w' O R (Both (SpT p (s.putbS x.n).1) (RSpT q (s.putbS x.n).1)) := by
  obtain ⟨xk, xr, xn, xb, xv, xl, xek, xec⟩ := x
  dsimp only at *
  subst hk
  have HF := Lib.hid hf
  have HD := Lib.hid hd
  have r1 := (Fr.refl no w).alloc (.cells #[.int .i64 9, .int .i64 xr, .int .i64 xn, .int .i64 xb, .int .u64 xv, .slice ua xl.length uc, .int .i64 xek, .int .i64 xec] 57)
  have hb1 := heap_new w (.cells #[.int .i64 9, .int .i64 xr, .int .i64 xn, .int .i64 xb, .int .u64 xv, .slice ua xl.length uc, .int .i64 xek, .int .i64 xec] 57)
  have HB1 := Lib.hid hb1
  have HD1 := Lib.hid (DoAt.start h r1)
  have HXB : Hid (¬ (O w.heap.size ∨ (w.heap.size ≤ w.heap.size ∧ ¬ (w.heap.size ≤ w.heap.size ∧ w.heap.size < (w.alloc (.cells #[.int .i64 9, .int .i64 xr, .int .i64 xn, .int .i64 xb, .int .u64 xv, .slice ua xl.length uc, .int .i64 xek, .int .i64 xec] 57)).heap.size)))) := Lib.hid (fun hx => by
    rcases hx with hx | hx
    · have := HD1.out.olt _ hx; omega
    · exact hx.2 ⟨Nat.le_refl _, (Array.getElem?_eq_some_iff.1 hb1).1⟩)
  clear r1 h hf hd hb1
  go_enter Tryz.func36, Tryz.ntmps36
  go_upto_region 25 with (fail)
  have HD2 := Lib.hid (HD1.out.soft (Fr.refl no _).drew)
  have SC : Hid (∀ w' : World, w'.heap[w.heap.size]? = some (.cells #[.int .i64 9, .int .i64 xr, .int .i64 xn, .int .i64 xb, .int .u64 xv, .slice ua xl.length uc, .int .i64 xek, .int .i64 xec] 57 (0, 0)) → (fun w' : World => w'.cell? ⟨w.heap.size, 2, none⟩ = some (.int .i64 xn)) w') := Lib.hid (fun w' h => cell_of_heap h rfl)
  have HB2 : Hid ((w.alloc (.cells #[.int .i64 9, .int .i64 xr, .int .i64 xn, .int .i64 xb, .int .u64 xv, .slice ua xl.length uc, .int .i64 xek, .int .i64 xec] 57)).drew.heap[w.heap.size]? = some (.cells #[.int .i64 9, .int .i64 xr, .int .i64 xn, .int .i64 xb, .int .u64 xv, .slice ua xl.length uc, .int .i64 xek, .int .i64 xec] 57 (0, 0))) := Lib.hid HB1.out
  have S2 := Lib.hid (SC.out _ HB2.out)
  refine Lex.region [3, 7] [10] (by kernel_rfl) (by kernel_rfl) ?_
  refine Lex.opens (fun w' : World => w'.cell? ⟨w.heap.size, 2, none⟩ = some (.int .i64 xn)) (S2.out) ?_
  repeat (first
    | (refine Lex.skips (by rfl) ?_; (try simp only [Act.put, List.setIfInBounds_toArray, List.set_cons_zero, List.set_cons_succ]))
    | (refine Lex.quiet (v := ?_) (by rfl) (by rfl) ?_ ?_; rotate_left; (focus (intro w' hS'; go_simp; try rfl)); (try simp only [Act.put, List.setIfInBounds_toArray, List.set_cons_zero, List.set_cons_succ])))
  refine Lex.loud (by rfl) (by rfl) ?_
  intro K' hK'
  go_simp
  refine (HD2.out.call1 (fun O R z h => sputb_ok _ xn HD.out h)).mono ?_
  rintro e w3 ⟨rfl, hd3, r3⟩
  have HD3 := Lib.hid hd3
  have HB3 := Lib.hid (r3.heap HB2.out HXB.out)
  have S3 := Lib.hid (SC.out _ HB3.out)
  clear hd3 r3
  refine hK' _ _ (S3.out) ?_
  clear hK'
  try simp only [Act.put, List.setIfInBounds_toArray, List.set_cons_zero, List.set_cons_succ]
  repeat (first
    | (refine Lex.skips (by rfl) ?_; (try simp only [Act.put, List.setIfInBounds_toArray, List.set_cons_zero, List.set_cons_succ]))
    | (refine Lex.quiet (v := ?_) (by rfl) (by rfl) ?_ ?_; rotate_left; (focus (intro w' hS'; go_simp; try rfl)); (try simp only [Act.put, List.setIfInBounds_toArray, List.set_cons_zero, List.set_cons_succ])))
  refine Lex.loud (by rfl) (by rfl) ?_
  intro K' hK'
  go_simp
  refine (HD3.out.call2 (fun O R z h => rputb_ok _ xn ⟨HF.out.n0, HF.out.n1⟩ HD.out h)).mono ?_
  rintro e w4 ⟨rfl, hd4, r4⟩
  have HD4 := Lib.hid hd4
  have HB4 := Lib.hid (r4.heap HB3.out HXB.out)
  have S4 := Lib.hid (SC.out _ HB4.out)
  clear hd4 r4
  refine hK' _ _ (S4.out) ?_
  clear hK'
  try simp only [Act.put, List.setIfInBounds_toArray, List.set_cons_zero, List.set_cons_succ]
  repeat (first
    | (refine Lex.skips (by rfl) ?_; (try simp only [Act.put, List.setIfInBounds_toArray, List.set_cons_zero, List.set_cons_succ]))
    | (refine Lex.quiet (v := ?_) (by rfl) (by rfl) ?_ ?_; rotate_left; (focus (intro w' hS'; go_simp; try rfl)); (try simp only [Act.put, List.setIfInBounds_toArray, List.set_cons_zero, List.set_cons_succ])))
  refine Lex.done ?_
  refine Lex.ends ?_
  go_wp2_with fail
  go_ret
  exact ⟨by simp, HD4.out.done⟩
set_option maxHeartbeats 4000000 in
theorem does_10 (w : World) (x : Ax) (ua : Option Addr) (uc : Nat) (hk : x.k = 10) (hr : ∀ w', Fr O w w' → Reads w' (.slice ua x.l.length uc) 1 x.l.length (ints x.l)) (hf : x.Fine) (hd : s.ds.length < 100000) (h : Both (SpT p s) (RSpT q s) O R w) :
    Calls Tryz.prog 36 #[.pointer (some ⟨p, 0, none⟩), .pointer (some ⟨q, 0, none⟩), .agg #[.int .i64 x.k, .int .i64 x.r, .int .i64 x.n, .int .i64 x.b, .int .u64 x.v, .slice ua x.l.length uc, .int .i64 x.ek, .int .i64 x.ec]] w fun e w' => e = .returned (.bool true) ∧ ThTo w w' O R (Both (SpT p (s.stoS x.v (u64of x.n)).1) (RSpT q (s.stoS x.v (u64of x.n)).1)) := by
  obtain ⟨xk, xr, xn, xb, xv, xl, xek, xec⟩ := x
  dsimp only at *
  subst hk
  have HF := Lib.hid hf
  have HD := Lib.hid hd
  have r1 := (Fr.refl no w).alloc (.cells #[.int .i64 10, .int .i64 xr, .int .i64 xn, .int .i64 xb, .int .u64 xv, .slice ua xl.length uc, .int .i64 xek, .int .i64 xec] 57)
  have hb1 := heap_new w (.cells #[.int .i64 10, .int .i64 xr, .int .i64 xn, .int .i64 xb, .int .u64 xv, .slice ua xl.length uc, .int .i64 xek, .int .i64 xec] 57)
  have HB1 := Lib.hid hb1
  have HD1 := Lib.hid (DoAt.start h r1)
  have HXB : Hid (¬ (O w.heap.size ∨ (w.heap.size ≤ w.heap.size ∧ ¬ (w.heap.size ≤ w.heap.size ∧ w.heap.size < (w.alloc (.cells #[.int .i64 10, .int .i64 xr, .int .i64 xn, .int .i64 xb, .int .u64 xv, .slice ua xl.length uc, .int .i64 xek, .int .i64 xec] 57)).heap.size)))) := Lib.hid (fun hx => by
    rcases hx with hx | hx
    · have := HD1.out.olt _ hx; omega
    · exact hx.2 ⟨Nat.le_refl _, (Array.getElem?_eq_some_iff.1 hb1).1⟩)
  clear r1 h hf hd hb1
  go_enter Tryz.func36, Tryz.ntmps36
  go_upto_region 27 with (fail)
  have HD2 := Lib.hid (HD1.out.soft (Fr.refl no _).drew)
  have HB2 : Hid ((w.alloc (.cells #[.int .i64 10, .int .i64 xr, .int .i64 xn, .int .i64 xb, .int .u64 xv, .slice ua xl.length uc, .int .i64 xek, .int .i64 xec] 57)).drew.heap[w.heap.size]? = some (.cells #[.int .i64 10, .int .i64 xr, .int .i64 xn, .int .i64 xb, .int .u64 xv, .slice ua xl.length uc, .int .i64 xek, .int .i64 xec] 57 (0, 0))) := Lib.hid HB1.out
  obtain ⟨g1, g2, hm, hc2, hst⟩ := HD2.out.sto
  have HMQ := Lib.hid hm
  have hwr := u64of_wrap xn
  have HST := Lib.hid (hst xv (u64of xn) HF.out.v1 (u64of_lt xn))
  have SC : Hid (∀ w' : World, w'.heap[w.heap.size]? = some (.cells #[.int .i64 10, .int .i64 xr, .int .i64 xn, .int .i64 xb, .int .u64 xv, .slice ua xl.length uc, .int .i64 xek, .int .i64 xec] 57 (0, 0)) → w'.cell? ⟨q, 2, none⟩ = some (.pointer (some ⟨g2, 0, none⟩)) → (fun w' : World => w'.cell? ⟨w.heap.size, 4, none⟩ = some (.int .u64 xv) ∧ w'.cell? ⟨w.heap.size, 2, none⟩ = some (.int .i64 xn) ∧ w'.cell? ⟨q, 2, none⟩ = some (.pointer (some ⟨g2, 0, none⟩))) w') := Lib.hid (fun w' h h2 => ⟨cell_of_heap h rfl, cell_of_heap h rfl, h2⟩)
  have S2 := Lib.hid (SC.out _ HB2.out hc2)
  clear hm hc2 hst
  refine Lex.region [1, 7, 17] [20] (by kernel_rfl) (by kernel_rfl) ?_
  refine Lex.opens (fun w' : World => w'.cell? ⟨w.heap.size, 4, none⟩ = some (.int .u64 xv) ∧ w'.cell? ⟨w.heap.size, 2, none⟩ = some (.int .i64 xn) ∧ w'.cell? ⟨q, 2, none⟩ = some (.pointer (some ⟨g2, 0, none⟩))) (S2.out) ?_
  repeat (first
    | (refine Lex.skips (by rfl) ?_; (try simp only [Act.put, List.setIfInBounds_toArray, List.set_cons_zero, List.set_cons_succ]))
    | (refine Lex.quiet (v := ?_) (by rfl) (by rfl) ?_ ?_; rotate_left; (focus (intro w' hS'; go_simp; try rfl)); (try simp only [Act.put, List.setIfInBounds_toArray, List.set_cons_zero, List.set_cons_succ])))
  refine Lex.loud (by rfl) (by rfl) ?_
  intro K' hK'
  go_simp
  refine HMQ.out.mono ?_
  rintro e w' ⟨rfl, rfl⟩
  refine hK' _ _ (S2.out) ?_
  clear hK'
  try simp only [Act.put, List.setIfInBounds_toArray, List.set_cons_zero, List.set_cons_succ]
  repeat (first
    | (refine Lex.skips (by rfl) ?_; (try simp only [Act.put, List.setIfInBounds_toArray, List.set_cons_zero, List.set_cons_succ]))
    | (refine Lex.quiet (v := ?_) (by rfl) (by rfl) ?_ ?_; rotate_left; (focus (intro w' hS'; go_simp; try rfl)); (try simp only [Act.put, List.setIfInBounds_toArray, List.set_cons_zero, List.set_cons_succ])))
  refine Lex.loud (by rfl) (by rfl) ?_
  intro K' hK'
  go_simp
  refine HST.out.mono ?_
  rintro e w3 ⟨rfl, hc3, hd3, r3, hst2⟩
  have HD3 := Lib.hid hd3
  have HB3 := Lib.hid (r3.heap HB2.out HXB.out)
  have S3 := Lib.hid (SC.out _ HB3.out hc3)
  have HST2 := Lib.hid hst2
  clear hd3 r3 hst2 hc3
  refine hK' _ _ (S3.out) ?_
  clear hK'
  try simp only [Act.put, List.setIfInBounds_toArray, List.set_cons_zero, List.set_cons_succ]
  repeat (first
    | (refine Lex.skips (by rfl) ?_; (try simp only [Act.put, List.setIfInBounds_toArray, List.set_cons_zero, List.set_cons_succ]))
    | (refine Lex.quiet (v := ?_) (by rfl) (by rfl) ?_ ?_; rotate_left; (focus (intro w' hS'; go_simp; try rfl)); (try simp only [Act.put, List.setIfInBounds_toArray, List.set_cons_zero, List.set_cons_succ])))
  refine Lex.loud (by rfl) (by rfl) ?_
  intro K' hK'
  go_simp
  refine HST2.out.mono ?_
  rintro e w4 ⟨rfl, hc4, hd4, r4⟩
  have HD4 := Lib.hid hd4
  have HB4 := Lib.hid (r4.heap HB3.out HXB.out)
  have S4 := Lib.hid (SC.out _ HB4.out hc4)
  clear hd4 r4 hc4
  refine hK' _ _ (S4.out) ?_
  clear hK'
  try simp only [Act.put, List.setIfInBounds_toArray, List.set_cons_zero, List.set_cons_succ]
  repeat (first
    | (refine Lex.skips (by rfl) ?_; (try simp only [Act.put, List.setIfInBounds_toArray, List.set_cons_zero, List.set_cons_succ]))
    | (refine Lex.quiet (v := ?_) (by rfl) (by rfl) ?_ ?_; rotate_left; (focus (intro w' hS'; go_simp; try rfl)); (try simp only [Act.put, List.setIfInBounds_toArray, List.set_cons_zero, List.set_cons_succ])))
  refine Lex.done ?_
  refine Lex.ends ?_
  go_wp2_with fail
  go_ret
  exact ⟨by simp, HD4.out.done⟩
set_option maxHeartbeats 4000000 in
theorem does_no (w : World) (x : Ax) (ua : Option Addr) (uc : Nat) (hk : x.k < 0 ∨ 10 < x.k) (hr : ∀ w', Fr O w w' → Reads w' (.slice ua x.l.length uc) 1 x.l.length (ints x.l)) (hf : x.Fine) (hd : s.ds.length < 100000) (h : Both (SpT p s) (RSpT q s) O R w) :
    Calls Tryz.prog 36 #[.pointer (some ⟨p, 0, none⟩), .pointer (some ⟨q, 0, none⟩), .agg #[.int .i64 x.k, .int .i64 x.r, .int .i64 x.n, .int .i64 x.b, .int .u64 x.v, .slice ua x.l.length uc, .int .i64 x.ek, .int .i64 x.ec]] w fun e w' => e = .returned (.bool true) ∧ ThTo w w' O R (Both (SpT p s) (RSpT q s)) := by
  have n0 : (x.k == 0) = false := beq_eq_false_iff_ne.2 (by omega)
  have n1 : (x.k == 1) = false := beq_eq_false_iff_ne.2 (by omega)
  have n2 : (x.k == 2) = false := beq_eq_false_iff_ne.2 (by omega)
  have n3 : (x.k == 3) = false := beq_eq_false_iff_ne.2 (by omega)
  have n4 : (x.k == 4) = false := beq_eq_false_iff_ne.2 (by omega)
  have n5 : (x.k == 5) = false := beq_eq_false_iff_ne.2 (by omega)
  have n6 : (x.k == 6) = false := beq_eq_false_iff_ne.2 (by omega)
  have n7 : (x.k == 7) = false := beq_eq_false_iff_ne.2 (by omega)
  have n8 : (x.k == 8) = false := beq_eq_false_iff_ne.2 (by omega)
  have n9 : (x.k == 9) = false := beq_eq_false_iff_ne.2 (by omega)
  have n10 : (x.k == 10) = false := beq_eq_false_iff_ne.2 (by omega)
  clear hk
  obtain ⟨xk, xr, xn, xb, xv, xl, xek, xec⟩ := x
  dsimp only at *
  have HF := Lib.hid hf
  have HD := Lib.hid hd
  have r1 := (Fr.refl no w).alloc (.cells #[.int .i64 xk, .int .i64 xr, .int .i64 xn, .int .i64 xb, .int .u64 xv, .slice ua xl.length uc, .int .i64 xek, .int .i64 xec] 57)
  have hb1 := heap_new w (.cells #[.int .i64 xk, .int .i64 xr, .int .i64 xn, .int .i64 xb, .int .u64 xv, .slice ua xl.length uc, .int .i64 xek, .int .i64 xec] 57)
  have HB1 := Lib.hid hb1
  have HD1 := Lib.hid (DoAt.start h r1)
  have HXB : Hid (¬ (O w.heap.size ∨ (w.heap.size ≤ w.heap.size ∧ ¬ (w.heap.size ≤ w.heap.size ∧ w.heap.size < (w.alloc (.cells #[.int .i64 xk, .int .i64 xr, .int .i64 xn, .int .i64 xb, .int .u64 xv, .slice ua xl.length uc, .int .i64 xek, .int .i64 xec] 57)).heap.size)))) := Lib.hid (fun hx => by
    rcases hx with hx | hx
    · have := HD1.out.olt _ hx; omega
    · exact hx.2 ⟨Nat.le_refl _, (Array.getElem?_eq_some_iff.1 hb1).1⟩)
  clear r1 h hf hd hb1
  go_enter Tryz.func36, Tryz.ntmps36
  obtain ⟨b0, b1, b2, b3, b4, b5, b6, b7⟩ := cells8n HB1.out
  go_wp2_with fail
  go_ret
  exact ⟨rfl, HD1.out.done⟩
theorem does_ok (w : World) (x : Ax) (ua : Option Addr) (uc : Nat) (hr : ∀ w', Fr O w w' → Reads w' (.slice ua x.l.length uc) 1 x.l.length (ints x.l)) (hf : x.Fine) (hd : s.ds.length < 100000) (hal : x.l.length ≤ 1000000) (h : Both (SpT p s) (RSpT q s) O R w) :
    Calls Tryz.prog 36 #[.pointer (some ⟨p, 0, none⟩), .pointer (some ⟨q, 0, none⟩), .agg #[.int .i64 x.k, .int .i64 x.r, .int .i64 x.n, .int .i64 x.b, .int .u64 x.v, .slice ua x.l.length uc, .int .i64 x.ek, .int .i64 x.ec]] w fun e w' => e = .returned (.bool true) ∧ ThTo w w' O R (Both (SpT p (s.actS x)) (RSpT q (s.actS x))) := by
  by_cases h0 : x.k = 0
  · rw [show s.actS x = s from by simp [Zp.actS, h0]]; exact does_0 w x ua uc h0 hr hf hd h
  by_cases h1 : x.k = 1
  · rw [show s.actS x = (s.setS x.r x.v).1 from by simp [Zp.actS, h1]]; exact does_1 w x ua uc h1 hr hf hd h
  by_cases h2 : x.k = 2
  · rw [show s.actS x = (s.goS x.n).1 from by simp [Zp.actS, h2]]; exact does_2 w x ua uc h2 hr hf hd h
  by_cases h3 : x.k = 3
  · rw [show s.actS x = (s.burnS x.n).1 from by simp [Zp.actS, h3]]; exact does_3 w x ua uc h3 hr hf hd h
  by_cases h4 : x.k = 4
  · rw [show s.actS x = (s.callS x.n x.l x.r x.b).1 from by simp [Zp.actS, h4]]; exact does_4 w x ua uc h4 hr hf hd hal h
  by_cases h5 : x.k = 5
  · rw [show s.actS x = (s.callS x.n x.l x.r x.b).1 from by simp [Zp.actS, h5]]; exact does_5 w x ua uc h5 hr hf hd hal h
  by_cases h6 : x.k = 6
  · rw [show s.actS x = (s.retS x.v).1 from by simp [Zp.actS, h6]]; exact does_6 w x ua uc h6 hr hf hd h
  by_cases h7 : x.k = 7
  · rw [show s.actS x = (s.stopS (x.ek, x.ec)).1 from by simp [Zp.actS, h7]]; exact does_7 w x ua uc h7 hr hf hd h
  by_cases h8 : x.k = 8
  · rw [show s.actS x = (s.getbS).1 from by simp [Zp.actS, h8]]; exact does_8 w x ua uc h8 hr hf hd h
  by_cases h9 : x.k = 9
  · rw [show s.actS x = (s.putbS x.n).1 from by simp [Zp.actS, h9]]; exact does_9 w x ua uc h9 hr hf hd h
  by_cases h10 : x.k = 10
  · rw [show s.actS x = (s.stoS x.v (u64of x.n)).1 from by simp [Zp.actS, h10]]; exact does_10 w x ua uc h10 hr hf hd h
  rw [show s.actS x = s from by simp [Zp.actS, h0, h1, h2, h3, h4, h5, h6, h7, h8, h9, h10]]
  exact does_no w x ua uc (by omega) hr hf hd h

end Go.Proofs.YtihnkijeefkefaaGreat

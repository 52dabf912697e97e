/- Types, plainly: what becomes of numbers. Of no program. -/
import Derived.Lib.SlicesCompact
set_option linter.unusedSimpArgs false
set_option linter.unusedVariables false
set_option linter.unusedSectionVars false
set_option linter.unnecessarySimpa false
namespace Go.Ty

/-- the last k bytes; signed -/
def zextN (x k : Nat) : Nat := if k = 1 then x % 256 else if k = 2 then x % 65536 else if k = 4 then x % 4294967296 else if k = 8 then x else 0
def sextN (x k : Nat) : Nat :=
  if k = 1 then (if x % 256 < 128 then x % 256 else x % 256 + 18446744073709551360)
  else if k = 2 then (if x % 65536 < 32768 then x % 65536 else x % 65536 + 18446744073709486080)
  else if k = 4 then (if x % 4294967296 < 2147483648 then x % 4294967296 else x % 4294967296 + 18446744069414584320)
  else if k = 8 then x else 0
def sizeN (b : Int) : Nat := [0, 1, 1, 2, 2, 4, 4, 8, 8].getD b.toNat 0
def isInt (b : Int) : Bool := decide (1 ≤ b) && decide (b ≤ 8)
def promB (b : Int) : Int := if isInt b = true then (if b < 5 then 5 else b) else 0
def commB (a b : Int) : Int := if isInt a = true ∧ isInt b = true then (if promB a < promB b then promB b else promB a) else 0
def convN (x : Nat) (b : Int) : Nat := if isInt b = true then (if b.tmod 2 = 1 then sextN x (sizeN b) else zextN x (sizeN b)) else x

theorem isInt_cases {b : Int} (h : 1 ≤ b ∧ b ≤ 8) : b = 1 ∨ b = 2 ∨ b = 3 ∨ b = 4 ∨ b = 5 ∨ b = 6 ∨ b = 7 ∨ b = 8 := by omega
theorem promB_in {b : Int} (h : 1 ≤ b ∧ b ≤ 8) : promB b = if b < 5 then 5 else b := by
  unfold promB isInt
  simp [h.1, h.2]
theorem conv1 (x : Nat) : convN x 1 = if x % 256 < 128 then x % 256 else x % 256 + 18446744073709551360 := rfl
theorem conv2 (x : Nat) : convN x 2 = x % 256 := rfl
theorem conv3 (x : Nat) : convN x 3 = if x % 65536 < 32768 then x % 65536 else x % 65536 + 18446744073709486080 := rfl
theorem conv4 (x : Nat) : convN x 4 = x % 65536 := rfl
theorem conv5 (x : Nat) : convN x 5 = if x % 4294967296 < 2147483648 then x % 4294967296 else x % 4294967296 + 18446744069414584320 := rfl
theorem conv6 (x : Nat) : convN x 6 = x % 4294967296 := rfl
theorem conv7 (x : Nat) : convN x 7 = x := rfl
theorem conv8 (x : Nat) : convN x 8 = x := rfl
theorem conv_lt {x : Nat} (hx : x < 18446744073709551616) {b : Int} (h : 1 ≤ b ∧ b ≤ 8) : convN x b < 18446744073709551616 := by
  rcases isInt_cases h with rfl | rfl | rfl | rfl | rfl | rfl | rfl | rfl
  · rw [conv1]; split <;> omega
  · rw [conv2]; omega
  · rw [conv3]; split <;> omega
  · rw [conv4]; omega
  · rw [conv5]; split <;> omega
  · rw [conv6]; omega
  · rw [conv7]; exact hx
  · rw [conv8]; exact hx
theorem conv_again {x : Nat} (hx : x < 18446744073709551616) {b : Int} (h : 1 ≤ b ∧ b ≤ 8) : convN (convN x b) b = convN x b := by
  rcases isInt_cases h with rfl | rfl | rfl | rfl | rfl | rfl | rfl | rfl
  · rw [conv1, conv1]; split <;> split <;> omega
  · rw [conv2, conv2]; omega
  · rw [conv3, conv3]; split <;> split <;> omega
  · rw [conv4, conv4]; omega
  · rw [conv5, conv5]; split <;> split <;> omega
  · rw [conv6, conv6]; omega
  · rw [conv7]
  · rw [conv8]
theorem conv_prom {x : Nat} (hx : x < 18446744073709551616) {b : Int} (h : 1 ≤ b ∧ b ≤ 8) : convN (convN x b) (promB b) = convN x b := by
  rw [promB_in h]
  rcases isInt_cases h with rfl | rfl | rfl | rfl | rfl | rfl | rfl | rfl
  · rw [if_pos (by decide), conv5, conv1]; split <;> split <;> omega
  · rw [if_pos (by decide), conv5, conv2]; split <;> omega
  · rw [if_pos (by decide), conv5, conv3]; split <;> split <;> omega
  · rw [if_pos (by decide), conv5, conv4]; split <;> omega
  · rw [if_neg (by decide), conv5, conv5]; split <;> split <;> omega
  · rw [if_neg (by decide), conv6, conv6]; omega
  · rw [if_neg (by decide), conv7]
  · rw [if_neg (by decide), conv8]
theorem comm_facts {a b : Int} (ha : 1 ≤ a ∧ a ≤ 8) (hb : 1 ≤ b ∧ b ≤ 8) : commB a b = commB b a ∧ commB a a = promB a ∧ promB (promB a) = promB a ∧ (commB a b = promB a ∨ commB a b = promB b) ∧ commB (commB a b) a = commB a b := by
  rcases isInt_cases ha with rfl | rfl | rfl | rfl | rfl | rfl | rfl | rfl
  all_goals
    rcases isInt_cases hb with rfl | rfl | rfl | rfl | rfl | rfl | rfl | rfl
    all_goals decide
end Go.Ty

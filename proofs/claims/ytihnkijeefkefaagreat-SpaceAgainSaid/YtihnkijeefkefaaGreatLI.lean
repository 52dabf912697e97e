import Derived.Test.YtihnkijeefkefaaGreatLG
import Derived.Test.YtihnkijeefkefaaGreatLD
set_option linter.unusedSimpArgs false
set_option linter.unusedVariables false
set_option linter.unusedSectionVars false
set_option linter.unnecessarySimpa false
set_option maxRecDepth 100000
namespace Go.Proofs.YtihnkijeefkefaaGreat

/-! ### what is put is got, and what is got is put (plain) -/
theorem le_cons (x n : Nat) : le x (n + 1) = x % 256 :: le (x / 256) n := by
  induction n with
  | zero => simp [le]
  | succ n ih =>
    show le x (n + 1) ++ [x / 256 ^ (n + 1) % 256] = _
    rw [ih]
    show _ = x % 256 :: (le (x / 256) n ++ [x / 256 / 256 ^ n % 256])
    rw [Nat.div_div_eq_div_mul, Nat.pow_succ, Nat.mul_comm 256]
    rfl
theorem unle_le : ∀ (n x : Nat), x < 256 ^ n → unle (le x n) = x
  | 0, x, h => by simp [le, unle] at *; omega
  | n + 1, x, h => by
    have h1 : x / 256 < 256 ^ n := by rw [Nat.div_lt_iff_lt_mul (by decide)]; rw [Nat.pow_succ] at h; exact h
    have := unle_le n (x / 256) h1
    rw [le_cons]
    simp only [unle]
    rw [this]
    omega
theorem le_unle : ∀ (l : List Nat), (∀ b ∈ l, b < 256) → le (unle l) l.length = l
  | [], _ => rfl
  | b :: l, h => by
    have hb := h b (by simp)
    have := le_unle l (fun x hx => h x (by simp [hx]))
    simp only [List.length_cons, le_cons, unle]
    rw [show (b + 256 * unle l) % 256 = b from by omega, show (b + 256 * unle l) / 256 = unle l from by omega, this]
/-- how many registers -/
def kc (s : List UInt8) : Nat := (s.filter fun c => regB c.toNat).length
def fits (z : Int) (n : Nat) : Prop := sgn (unle (le (toU z) n)) = z
end Go.Proofs.YtihnkijeefkefaaGreat

namespace Go.Proofs.YtihnkijeefkefaaGreat

/-! ### what is got is put as it was (plain) -/
def rng (z : Int) : Prop := -9223372036854775808 ≤ z ∧ z < 9223372036854775808
/-- letters that are no register -/
def nc (s : List UInt8) : Nat := (s.filter fun c => !regB c.toNat).length
end Go.Proofs.YtihnkijeefkefaaGreat

import Derived.Test.YtihnkijeefkefaaGreatQ16
set_option linter.unusedSimpArgs false
set_option linter.unusedVariables false
set_option linter.unusedSectionVars false
set_option linter.unnecessarySimpa false
set_option maxRecDepth 100000
/- Laying numbers into registers, one behind the other. Plain. -/
namespace Go.Proofs.YtihnkijeefkefaaGreat

theorem layS_snoc : ∀ (l : List Nat) (s : Zp) (k v : Nat), s.layS k (l ++ [v]) = (s.layS k l).putR (k + l.length) v
  | [], s, k, v => rfl
  | x :: l, s, k, v => by
    show Zp.layS (s.putR k x) (k + 1) (l ++ [v]) = _
    rw [layS_snoc l, List.length_cons, show k + 1 + l.length = k + (l.length + 1) from by omega]
    rfl
theorem layS_take {l : List Nat} {j : Nat} (s : Zp) (h : j < l.length) : s.layS 0 (l.take (j + 1)) = (s.layS 0 (l.take j)).putR j l[j] := by
  rw [List.take_succ_eq_append_getElem h, layS_snoc, List.length_take, Nat.min_eq_left (by omega), Nat.zero_add]
theorem u64s_get {l : List Nat} {j : Nat} (h : j < l.length) : (u64s l)[j]? = some (.int .u64 (l[j] : Nat)) := by simp [u64s, h]
theorem four_ints (a b c d : Int) : ∀ v ∈ [Value.int .i64 a, .int .i64 b, .int .i64 c, .int .i64 d], v.oneCell' = true := by
  intro v hv
  simp at hv
  rcases hv with rfl | rfl | rfl | rfl <;> rfl

end Go.Proofs.YtihnkijeefkefaaGreat

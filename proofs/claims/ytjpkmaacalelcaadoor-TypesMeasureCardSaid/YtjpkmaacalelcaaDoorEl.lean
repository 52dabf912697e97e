/- The elements of a slice whose elements are structs. Over any program. -/
import Derived.Test.YtjpkmaacalelcaaDoorLA
set_option linter.unusedSimpArgs false
set_option linter.unusedVariables false
set_option linter.unusedSectionVars false
set_option linter.unnecessarySimpa false
namespace Go
theorem reads_elem {w : World} {sa : Option Addr} {n c k z : Nat} {cs : List Value} (h : Reads w (.slice sa n c) z n cs) (hz : 0 < z) (hk : k < n) : ∃ b o, sa = some ⟨b, o, none⟩ ∧ At w b (o + k * z) ((cs.drop (k * z)).take z) := by
  rcases h with ⟨_, rfl, _⟩ | ⟨a, cap, hv, h1, h2, h3, h4⟩
  · omega
  · cases hv
    have hlen : k * z + z ≤ cs.length := by
      rw [h3]
      have := Nat.mul_le_mul_right z (show k + 1 ≤ n from hk)
      rw [Nat.add_mul] at this
      omega
    obtain ⟨u, hu⟩ : ∃ u, cs[0]? = some u := ⟨cs[0]'(by omega), List.getElem?_eq_getElem (by omega)⟩
    have h5 := h4 0 u hu
    have ea : a = ⟨a.block, a.off, none⟩ := by
      have := spot_none h5
      rwa [show a.add 0 = a from by unfold Addr.add; simp] at this
    generalize a.block = b at ea
    generalize a.off = o at ea
    subst ea
    refine ⟨b, o, rfl, fun j v hj => ?_⟩
    rw [List.getElem?_take] at hj
    split at hj
    · rw [List.getElem?_drop] at hj
      have := h4 _ v hj
      rw [Addr.add_lit] at this
      rw [Nat.add_assoc]
      exact this
    · cases hj
theorem cap_of_reads {w : World} {z n c : Nat} {a : Option Addr} {cs : List Value} (h : Reads w (.slice a n c) z n cs) : n ≤ c := by
  rcases h with ⟨h, h2, -⟩ | ⟨b, cap, h, h2, -⟩
  · cases h; exact Nat.le_refl _
  · cases h; exact h2
theorem reads_cut {w : World} {n c k z : Nat} {a : Option Addr} {cs : List Value} (h : Reads w (.slice a n c) z n cs) (hk : k ≤ n) : Reads w (.slice a k c) z k (cs.take (k * z)) := by
  rcases h with ⟨h, h2, h3⟩ | ⟨b, cap, h, h2, h3, h4, h5⟩
  · cases h
    obtain rfl : k = 0 := by omega
    exact .inl ⟨rfl, rfl, by simp⟩
  · cases h
    have := Nat.mul_le_mul_right z hk
    refine .inr ⟨b, c, rfl, by omega, h3, by rw [List.length_take, h4]; omega, fun j u hu => ?_⟩
    rw [List.getElem?_take] at hu
    split at hu
    · exact h5 j u hu
    · cases hu
/-- blocks of two types are two -/
theorem block_ne {w : World} {a b : Nat} {c1 c2 : Array Value} {t1 t2 : TypeId} (h1 : w.heap[a]? = some (.cells c1 t1 (0, 0))) (h2 : w.heap[b]? = some (.cells c2 t2 (0, 0))) (h : t1 ≠ t2) : a ≠ b := by
  rintro rfl
  rw [h1] at h2
  simp at h2
  exact h h2.2
theorem rows_ne {w : World} {base base' n m z z' : Nat} {e e' : TypeId} {u v : Value} {xs ys : List Value} (h : w.ownsRow base e z u n xs) (k : w.ownsRow base' e' z' v m ys) (hne : e ≠ e') : ∀ i, u.ownBlock = some i → v.ownBlock ≠ some i := by
  intro i hi hj
  rcases h.2 with ⟨rfl, -⟩ | ⟨g, cap, cur, rfl, -, hg, -⟩
  · cases hi
  rcases k.2 with ⟨rfl, -⟩ | ⟨g', cap', cur', rfl, -, hg', -⟩
  · cases hj
  have h1 : g = i := by simpa [Value.ownBlock] using hi
  have h2 : g' = i := by simpa [Value.ownBlock] using hj
  subst h1
  subst h2
  exact block_ne hg hg' hne rfl
theorem row_block_ne {w : World} {base b n z : Nat} {e t : TypeId} {u : Value} {xs : List Value} {c : Array Value} (h : w.ownsRow base e z u n xs) (k : w.heap[b]? = some (.cells c t (0, 0))) (hne : e ≠ t) : u.ownBlock ≠ some b := by
  intro hi
  rcases h.2 with ⟨rfl, -⟩ | ⟨g, cap, cur, rfl, -, hg, -⟩
  · cases hi
  have h1 : g = b := by simpa [Value.ownBlock] using hi
  subst h1
  exact block_ne hg k hne rfl
end Go

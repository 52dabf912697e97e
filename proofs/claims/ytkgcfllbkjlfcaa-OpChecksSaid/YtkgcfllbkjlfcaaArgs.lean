import Derived.Test.YtkgcfllbkjlfcaaBase
import Derived.ProofKit
import Derived.SizedLaws
import Derived.Deep.Grids
namespace Go.RowKit
open Go.ChangeShapes Go.WideShapes Go.ChangeAt Go.Deep
open Go.ChangeMaps (open_string)
section
variable {H : Type} {enc : TypeId × Value → H} {P : Program} {W : World} {base : Nat} {t e : TypeId} {v : Value} {d : DataW H} {p : List MemPlace}

theorem arg_int {k : IntKind} (ht : P.underlying t = some (.int k)) (hk : Value.okWide P W .any base t v) (h : DataW.Trod enc P W 0 (fun _ => true) true t v d p) :
    ∃ n, v = .int k n ∧ (Lit.int k n).wf = true := by
  obtain ⟨n, rfl, _, _, hw⟩ := open_int ht hk h
  exact ⟨n, rfl, hw⟩
theorem arg_bool (ht : P.underlying t = some .bool) (hk : Value.okWide P W .any base t v) (h : DataW.Trod enc P W 0 (fun _ => true) true t v d p) :
    ∃ b, v = .bool b := by
  obtain ⟨n, rfl, _, _⟩ := open_bool ht hk h
  exact ⟨n, rfl⟩
theorem arg_string (ht : P.underlying t = some .string) (hk : Value.okWide P W .any base t v) (h : DataW.Trod enc P W 0 (fun _ => true) true t v d p) :
    ∃ s, v = .string s ∧ s.size ≤ maxLen := by
  obtain ⟨n, rfl, _, _, hs⟩ := open_string ht hk h
  exact ⟨n, rfl, hs⟩

theorem arg_ints {k : IntKind} {by_ : Nat} (ht : P.underlying t = some (.slice e)) (he : P.underlying e = some (.int k)) (hc : P.cellsOf e = 1)
    (hk : Value.okWide P W .any base t v) (h : DataW.Trod enc P W 0 (fun _ => true) true t v d p)
    (hs : ∀ x y, d = .slice x y → (x.length + y.length) * by_ ≤ reachBytes) :
    ∃ zs : List Int, Reads W v 1 zs.length (zs.map (.int k)) ∧ (∀ z ∈ zs, (Lit.int k z).wf = true) ∧ zs.length * by_ ≤ reachBytes := by
  obtain ⟨a, len, cap, rfl⟩ := okWide_slice ht hk
  obtain ⟨fuel, hf⟩ := h
  rcases open_ints ht he hc hf with ⟨hcs, _⟩ | ⟨x, l, c, zs, hcs, _, hl, hm, hz, hx, hcell, hwz⟩
  · simp [Value.cells] at hcs
    obtain ⟨rfl, rfl, rfl⟩ := hcs
    exact ⟨[], .inl ⟨rfl, rfl, rfl⟩, by simp, by simp⟩
  · simp [Value.cells] at hcs
    obtain ⟨rfl, rfl, rfl⟩ := hcs
    simp only [if_true] at hz
    have e1 : (zs.take len).length = len := by rw [List.length_take]; omega
    refine ⟨zs.take len, ?_, fun z hz' => hwz z (List.mem_of_mem_take hz'), ?_⟩
    · rw [e1]
      refine .inr ⟨x, cap, rfl, hl, hm, by simp; omega, fun j u hu => ?_⟩
      have hj : j < len := by
        rcases Nat.lt_or_ge j len with h | h
        · exact h
        · rw [List.getElem?_eq_none (by simp; omega)] at hu; cases hu
      rw [hcell j (by omega)]
      rw [List.getElem?_map, List.getElem?_take, if_pos hj, List.getElem?_eq_getElem (by omega)] at hu
      simp only [Option.map_some, Option.some.injEq] at hu
      rw [← hu, List.getD_eq_getElem?_getD, List.getElem?_eq_getElem (by omega)]; rfl
    · have hd := congrArg Prod.fst hx
      have := hs _ _ hd
      refine Nat.le_trans (Nat.mul_le_mul_right _ ?_) this
      simp [lits]

theorem arg_bools {by_ : Nat} (ht : P.underlying t = some (.slice e)) (he : P.underlying e = some .bool) (hc : P.cellsOf e = 1)
    (hk : Value.okWide P W .any base t v) (h : DataW.Trod enc P W 0 (fun _ => true) true t v d p)
    (hs : ∀ x y, d = .slice x y → (x.length + y.length) * by_ ≤ reachBytes) :
    ∃ zs : List Bool, Reads W v 1 zs.length (zs.map .bool) ∧ zs.length * by_ ≤ reachBytes := by
  obtain ⟨a, len, cap, rfl⟩ := okWide_slice ht hk
  obtain ⟨fuel, hf⟩ := h
  rcases open_bools ht he hc hf with ⟨hcs, _⟩ | ⟨x, l, c, B, hcs, _, hl, hm, hx, hcell⟩
  · simp [Value.cells] at hcs
    obtain ⟨rfl, rfl, rfl⟩ := hcs
    exact ⟨[], .inl ⟨rfl, rfl, rfl⟩, by simp⟩
  · simp [Value.cells] at hcs
    obtain ⟨rfl, rfl, rfl⟩ := hcs
    refine ⟨(List.range len).map B, ?_, ?_⟩
    · have e1 : ((List.range len).map B).length = len := by simp
      rw [e1]
      refine .inr ⟨x, cap, rfl, hl, hm, by simp, fun j u hu => ?_⟩
      have hj : j < len := by
        rcases Nat.lt_or_ge j len with h | h
        · exact h
        · rw [List.getElem?_eq_none (by simp; omega)] at hu; cases hu
      rw [hcell j (by omega)]
      simpa [hj] using hu
    · have hd := congrArg Prod.fst hx
      have := hs _ _ hd
      refine Nat.le_trans (Nat.mul_le_mul_right _ ?_) this
      simp
end
end Go.RowKit

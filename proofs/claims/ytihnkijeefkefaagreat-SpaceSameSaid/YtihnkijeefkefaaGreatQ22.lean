import Derived.Test.YtihnkijeefkefaaGreatQ18
import Derived.Test.YtihnkijeefkefaaGreatQ21
set_option linter.unusedSimpArgs false
set_option linter.unusedVariables false
set_option linter.unusedSectionVars false
set_option linter.unnecessarySimpa false
set_option maxRecDepth 100000
/- A new space. Plain. -/
namespace Go.Proofs.YtihnkijeefkefaaGreat

def sp0 (m : Mx) (n : Nat) (inp : List Nat) (fuel : Int) : Zp := ⟨m, layB (List.replicate n 0) 16 m.d, inp, 0, [], fuel, n, 0, 0, [], (0, 0)⟩
def sp1 (m : Mx) (n : Nat) (inp : List Nat) (fuel : Int) : Zp := { sp0 m n inp fuel with at_ := n - fsz (fnOf m 0) }
def fits0 (m : Mx) (n : Nat) : Bool := decide (flr m + fsz (fnOf m 0) ≤ n)
def newS (m : Mx) (n : Nat) (inp : List Nat) (fuel : Int) : Zp := if fits0 m n then (sp1 m n inp fuel).layS 0 (List.replicate (fnOf m 0).p.toNat 0) else { sp0 m n inp fuel with e := (3, 0) }
structure NewArg (m : Mx) (n : Nat) (inp : List Nat) (fuel : Int) : Prop where
  ck : modCk m = 0
  sm : m.Small
  n0 : 16 ≤ n
  n1 : n ≤ 65536
  n16 : n % 16 = 0
  fl : flr m ≤ n
  il : inp.length ≤ 100000
  ib : ∀ x ∈ inp, x < 256
  f0 : 0 ≤ fuel
  f1 : fuel ≤ 10000000
section
variable {m : Mx} {n : Nat} {inp : List Nat} {fuel : Int}
theorem NewArg.room (h : NewArg m n inp fuel) : 16 + m.d.length ≤ n := by have := h.fl; unfold flr at this; omega
theorem NewArg.blen (h : NewArg m n inp fuel) : (sp0 m n inp fuel).b.length = n := by
  show (layB (List.replicate n 0) 16 m.d).length = n
  rw [layB_len (by rw [List.length_replicate]; exact h.room), List.length_replicate]
theorem NewArg.bb (h : NewArg m n inp fuel) : ∀ x ∈ (sp0 m n inp fuel).b, x < 256 := by
  intro x hx
  simp only [sp0, layB, List.mem_append] at hx
  rcases hx with (hx | hx) | hx
  · have := List.mem_of_mem_take hx
    have := List.eq_of_mem_replicate this
    omega
  · exact h.sm.lt x hx
  · have := List.mem_of_mem_drop hx
    have := List.eq_of_mem_replicate this
    omega
theorem NewArg.fi (h : NewArg m n inp fuel) : 0 < m.f.length := (ck_len h.ck).2.1
theorem NewArg.ended (h : NewArg m n inp fuel) : ({ sp0 m n inp fuel with e := (3, 0) } : Zp).Ok :=
  ⟨h.ck, h.sm, by rw [h.blen]; exact h.n1, by rw [h.blen]; exact h.n16, h.bb, h.fl, by rw [h.blen]; exact Nat.le_refl _, h.n16, h.fi, fun e => by simp at e, fun _ hl => (List.not_mem_nil hl).elim, Nat.zero_le _, Nat.zero_le _, h.il, h.ib, h.f0, h.f1, rfl, .inr rfl⟩
theorem NewArg.one (h : NewArg m n inp fuel) (hf : fits0 m n = true) : (sp1 m n inp fuel).Ok := by
  have hf := of_decide_eq_true hf
  have c := fnOf_ck h.ck h.fi
  have h1 := fsz_ge c.2.2.2.2.1
  have h2 := fsz_16 (fnOf m 0)
  have h3 := h.n16
  have hb : (sp1 m n inp fuel).b.length = n := h.blen
  refine ⟨h.ck, h.sm, by rw [hb]; exact h.n1, by rw [hb]; exact h.n16, h.bb, ?_, ?_, ?_, h.fi, fun _ => ?_, fun _ hl => (List.not_mem_nil hl).elim, Nat.zero_le _, Nat.zero_le _, h.il, h.ib, h.f0, h.f1, rfl, .inl rfl⟩
  · show flr m ≤ n - _; omega
  · rw [hb]; exact Nat.sub_le _ _
  · show (n - fsz _) % 16 = 0; omega
  · rw [hb]; show n - fsz (fnOf m 0) + 8 * (fnOf m 0).r.toNat ≤ n; omega
theorem NewArg.lay (h : NewArg m n inp fuel) (hf : fits0 m n = true) {k : Nat} (hk : k ≤ (fnOf m 0).p.toNat) : ((sp1 m n inp fuel).layS 0 (List.replicate k 0)).Ok := by
  have h1 := h.one hf
  have c := fnOf_ck h.ck h.fi
  have h2 := h1.fit rfl
  refine h1.layS _ 0 ?_
  rw [List.length_replicate]
  refine Nat.le_trans ?_ h2
  show _ ≤ (sp1 m n inp fuel).at_ + 8 * (fnOf m 0).r.toNat
  omega
theorem NewArg.ok (h : NewArg m n inp fuel) : (newS m n inp fuel).Ok := by
  unfold newS
  cases hf : fits0 m n
  · rw [if_neg (by decide)]; exact h.ended
  · rw [if_pos rfl]; exact h.lay hf (Nat.le_refl _)
theorem NewArg.rg (h : NewArg m n inp fuel) {k : Nat} (hk : k < (fnOf m 0).p.toNat) (l : List Nat) : ((sp1 m n inp fuel).layS 0 l).rg k = true ∧ ((sp1 m n inp fuel).layS 0 l).e.1 = 0 := by
  have sm := layS_same l (sp1 m n inp fuel) 0
  have c := fnOf_ck h.ck h.fi
  refine ⟨?_, by rw [sm.2.2.2.2.2.2.2.2.2]; rfl⟩
  simp only [Zp.rg, isRg]
  rw [sm.1, sm.2.2.2.2.2.2.1]
  exact decide_eq_true ⟨by omega, by show (k : Int) < (fnOf m 0).r; omega⟩
theorem lay_zero (k : Nat) (s : Zp) : s.layS 0 (List.replicate (k + 1) 0) = (s.layS 0 (List.replicate k 0)).putR k 0 := by
  rw [List.replicate_succ', layS_snoc, List.length_replicate, Nat.zero_add]
end

end Go.Proofs.YtihnkijeefkefaaGreat

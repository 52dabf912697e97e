import Derived.Test.YtihnkijeefkefaaGreatLH
import Derived.Test.YtihnkijeefkefaaGreatLG
set_option linter.unusedSimpArgs false
set_option linter.unusedVariables false
set_option linter.unusedSectionVars false
set_option linter.unnecessarySimpa false
set_option maxRecDepth 100000
namespace Go.Proofs.YtihnkijeefkefaaGreat
open Go.RowKit

attribute [local go_sem] Program.isFuncB Program.isSliceB

variable {w w' w'' w0 : World}

theorem le_lt (x : Nat) : ∀ (n : Nat), ∀ b ∈ le x n, b < 256
  | 0, b, h => by simp [le] at h
  | n + 1, b, h => by
    simp only [le, List.mem_append, List.mem_singleton] at h
    rcases h with h | rfl
    · exact le_lt x n b h
    · omega
theorem encSt_lt (o A B C N : Int) (l : List Int) (h0 : o.toNat < 256) (hl : l.length ≤ 8) (ha : ∀ z ∈ l, z.toNat < 256) : ∀ (s : List UInt8) (st : List Nat × Nat), (∀ b ∈ st.1, b < 256) → ∀ b ∈ (s.foldl (stepE A B C N l) st).1, b < 256
  | [], st, h => h
  | c :: s, st, h => by
    rw [List.foldl_cons]
    refine encSt_lt o A B C N l h0 hl ha s _ ?_
    intro b hb
    unfold stepE at hb
    split at hb
    · simp only [List.mem_append, List.mem_cons, List.mem_map] at hb
      rcases hb with hb | rfl | ⟨z, hz, rfl⟩
      · exact h b hb
      · omega
      · exact ha z hz
    · simp only [List.mem_append] at hb
      rcases hb with hb | hb
      · exact h b hb
      · exact le_lt _ _ b hb
theorem encE_lt (i : Ix) : ∀ b ∈ encE i, b < 256 := by
  unfold encE
  split
  · rename_i h
    have hf := (fine_iff _ _ _ _ _ _ _ _).1 h
    unfold enc encSt
    refine encSt_lt i.o i.A i.B i.C i.N i.l (by have := hf.op; omega) (by have := hf.few; omega) (fun z hz => ?_) _ _ (fun b hb => by simp at hb; have := hf.op; omega)
    have := hf.all
    rw [List.any_append] at this
    simp only [Bool.or_eq_true, not_or, List.any_eq_true, not_exists, not_and] at this
    have h2 := this.2 z hz
    unfold out1 at h2
    simp at h2
    omega
  · intro b hb; cases hb

theorem load_ins (w : World) (b : Nat) (cs : Array Value) (h : w.heap[b]? = some (.cells cs 112 (0, 0))) (hcs : cs.size = 6) : (loadVar 112 ⟨b, 0, none⟩).run Tryz.prog w = .ok (.agg cs) w :=
  run_loadVar_row w _ _ _ cs (0, 0) _ h Tryz.underlying112 rfl (by rw [Tryz.infoIns, hcs])

end Go.Proofs.YtihnkijeefkefaaGreat

namespace Go.Proofs.YtihnkijeefkefaaGreat
open Go.RowKit

attribute [local go_sem] Program.isFuncB Program.isSliceB

variable {w w' w'' w0 : World}

/-- a literal of bytes -/
theorem bytes_lit (w : World) (bs : List Nat) (cs : Array Value) (hcs : (u8s bs).toArray = cs) (hl : bs.length ≤ 1000) (hb : ∀ b ∈ bs, b < 256) : Bytes (w.alloc (.cells cs 5)) (.slice (some ⟨w.heap.size, 0, none⟩) bs.length bs.length) bs := by
  subst hcs
  have h := owns_reads (owns_row w (u8s bs) 5 (by rw [u8s_len]; omega))
  rw [u8s_len] at h
  exact ⟨h, hb, by omega, fun k hk => by cases hk; simp⟩

theorem getR_awake : getR [0, 3, 0, 1, 2] 1 = ⟨⟨3, 0, 1, 2, 0, []⟩, 5, 0, 0⟩ := by kernel_rfl
theorem enc_add : ckOf ⟨3, 0, 1, 2, 0, []⟩ = 0 ∧ encE ⟨3, 0, 1, 2, 0, []⟩ = [3, 0, 1, 2] := ⟨by kernel_rfl, by kernel_rfl⟩
theorem enc_nop : ckOf ⟨0, 0, 0, 0, 0, []⟩ = 0 ∧ encE ⟨0, 0, 0, 0, 0, []⟩ = [0] := ⟨by kernel_rfl, by kernel_rfl⟩

end Go.Proofs.YtihnkijeefkefaaGreat

import Derived.Test.YtpgmfifieilhkaaR1
namespace Go.Proofs.Ytpgmfifieilhkaa
open Go.RowKit

attribute [local go_sem] Program.isFuncB Program.isSliceB

variable {w w' w'' : World} {words : Nat} {P P' P'' : List (Nat × List Nat)}

theorem reads_atk {w : World} {sa : Option Addr} {size n c k : Nat} {cs : List Value} {u : Value} (h : Reads w (.slice sa n c) size n cs) (hk : cs[k]? = some u) :
    ∃ b o, sa = some ⟨b, o, none⟩ ∧ w.cell? ⟨b, o + k, none⟩ = some u := by
  rcases h with ⟨_, _, rfl⟩ | ⟨a, cap, hv, h1, h2, h3, h4⟩
  · simp at hk
  · cases hv
    have h0 : ∃ u0, cs[0]? = some u0 := by
      cases cs with
      | nil => simp at hk
      | cons x l => exact ⟨x, rfl⟩
    obtain ⟨u0, h0⟩ := h0
    have h5 := h4 0 u0 h0
    have h6 := h4 k u hk
    obtain ⟨b, o, sp⟩ := a
    cases sp with
    | none => rw [Addr.add_lit] at h6; exact ⟨b, o, rfl, h6⟩
    | some x =>
      exfalso
      rw [show (Addr.add ⟨b, o, some x⟩ 0) = ⟨b, o, some x⟩ from rfl] at h5
      unfold World.cell? at h5
      split at h5 <;> simp at h5

set_option maxHeartbeats 1000000 in
theorem ref_addr {r : RS} (h : RefAt w words P r) (f : Int) :
    Calls Try.prog 28 #[.pointer (some ⟨r.b, 0, none⟩), .int .i64 f] w fun e w' => ((∃ i, ∃ hi : i < P.length, (P[i].1 : Int) = f ∧ e = .returned (.tuple #[.int .u64 (adr (fromOf P i)), .bool true])) ∨ ((∀ i (hi : i < P.length), (P[i].1 : Int) ≠ f) ∧ e = .returned (.tuple #[.int .u64 0, .bool false]))) ∧ w = w' := by
  obtain ⟨la, lc, hlv⟩ := owns_shape h.rows
  have e2 : w.cell? ⟨r.b, 2, none⟩ = some (.slice la P.length lc) := by rw [← hlv]; exact cell_of_heap h.obj rfl
  have hlen : (flat P).length ≤ 65536 := Nat.le_trans h.ok.room h.ok.few
  have hPl : P.length ≤ 65536 := Nat.le_trans (len_flat P fun x hx => (h.ok.lt x hx).2.1) hlen
  have hcell : ∀ i (hi : i < P.length), ∃ b o, la = some ⟨b, o, none⟩ ∧ w.cell? ⟨b, o + i * 3, none⟩ = some (.int .i64 P[i].1) ∧ w.cell? ⟨b, o + i * 3 + 1, none⟩ = some (.int .i64 (fromOf P i)) ∧ fromOf P i ≤ 65536 := by
    intro i hi
    obtain ⟨k1, k2, k3⟩ := rows3_at P 0 i hi
    obtain ⟨b, o, rfl, c1⟩ := reads_atk (owns_reads (hlv ▸ h.rows)) k1
    obtain ⟨b', o', he, c2⟩ := reads_atk (owns_reads (hlv ▸ h.rows)) k2
    cases he
    have := fromOf_mono P i P.length (by omega)
    rw [fromOf_all] at this
    exact ⟨b, o, rfl, c1, by rw [Nat.add_assoc]; simpa using c2, by omega⟩
  have HC := Lib.hid hcell
  clear h hlv hcell hlen
  go_enter Try.func28, Try.ntmps28
  go_wp2_with fail
  go_loopw [6] (fun x wr => ∃ i : Nat, x = .int .i64 i ∧ i ≤ P.length ∧ Hid (∀ j (hj : j < P.length), j < i → (P[j].1 : Int) ≠ f) ∧ wr = w) (fun x _ => (P.length - intOf x).toNat)
  case atStart => exact ⟨0, rfl, by omega, Lib.hid fun j hj hj0 => by omega, rfl⟩
  case round =>
    obtain ⟨i, rfl, hi, hno, rfl⟩ := hrel
    by_cases hlt : i < P.length
    · obtain ⟨b, o, rfl, c1, c2, c3⟩ := HC.out i hlt
      have hlt' : (i : Int) < P.length := by omega
      by_cases hf : (P[i].1 : Int) = f
      · have HF := Lib.hid hf
        rw [hf] at c1
        clear hf
        go_wp2_with fail
        refine (ref_address _ _ (by omega)).mono ?_
        rintro e w' ⟨rfl, rfl⟩
        go_wp2_with fail
        go_ret2
        exact ⟨.inl ⟨i, hlt, HF.out, rfl⟩, rfl⟩
      · have HF := Lib.hid hf
        have hf2 : ((P[i].1 : Int) == f) = false := by simpa using hf
        generalize (P[i].1 : Int) = x at c1 hf hf2
        go_wp2_with fail
        go_roundw
        case rel =>
          refine ⟨i + 1, by go_num, by omega, Lib.hid fun j hj hji => ?_, by trivial⟩
          rcases Nat.lt_or_ge j i with h | h
          · exact hno.out j hj h
          · obtain rfl : j = i := by omega
            exact HF.out
        case measure => first | (simp [intOf]; done) | (simp [intOf]; omega)
    · obtain rfl : i = P.length := by omega
      go_wp2_with fail
      go_ret2
      exact ⟨.inr ⟨fun j hj => hno.out j hj hj, rfl⟩, rfl⟩

end Go.Proofs.Ytpgmfifieilhkaa

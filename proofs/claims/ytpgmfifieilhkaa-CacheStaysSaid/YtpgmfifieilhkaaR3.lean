import Derived.Test.YtpgmfifieilhkaaR2
namespace Go.Proofs.Ytpgmfifieilhkaa
open Go.RowKit

attribute [local go_sem] Program.isFuncB Program.isSliceB

variable {w w' w'' : World} {words : Nat} {P P' P'' : List (Nat × List Nat)}

set_option maxHeartbeats 1000000 in
theorem ref_find {r : RS} (h : RefAt w words P r) (a : Nat) :
    Calls Try.prog 30 #[.pointer (some ⟨r.b, 0, none⟩), .int .u64 a] w fun e w' => ((∃ n, n < (flat P).length ∧ adr n = a ∧ e = .returned (.tuple #[.int .i64 (who P n), .bool true])) ∨ ((∀ n, n < (flat P).length → adr n ≠ a) ∧ e = .returned (.tuple #[.int .i64 (-1), .bool false]))) ∧ w = w' := by
  obtain ⟨la, lc, hlv⟩ := owns_shape h.rows
  have e2 : w.cell? ⟨r.b, 2, none⟩ = some (.slice la P.length lc) := by rw [← hlv]; exact cell_of_heap h.obj rfl
  have hlen : (flat P).length ≤ 65536 := Nat.le_trans h.ok.room h.ok.few
  have hPl : P.length ≤ 65536 := Nat.le_trans (len_flat P fun x hx => (h.ok.lt x hx).2.1) hlen
  have hcell : ∀ i (hi : i < P.length), ∃ b o, la = some ⟨b, o, none⟩ ∧ w.cell? ⟨b, o + i * 3, none⟩ = some (.int .i64 P[i].1) ∧ w.cell? ⟨b, o + i * 3 + 1, none⟩ = some (.int .i64 (fromOf P i)) ∧ w.cell? ⟨b, o + i * 3 + 2, none⟩ = some (.int .i64 P[i].2.length) ∧ fromOf P i + P[i].2.length ≤ (flat P).length := by
    intro i hi
    obtain ⟨k1, k2, k3⟩ := rows3_at P 0 i hi
    obtain ⟨b, o, rfl, c1⟩ := reads_atk (owns_reads (hlv ▸ h.rows)) k1
    obtain ⟨b', o', he, c2⟩ := reads_atk (owns_reads (hlv ▸ h.rows)) k2
    cases he
    obtain ⟨b', o', he, c3⟩ := reads_atk (owns_reads (hlv ▸ h.rows)) k3
    cases he
    have h1 := fromOf_mono P (i + 1) P.length (by omega)
    have h2 := fromOf_succ P i hi
    rw [fromOf_all] at h1
    exact ⟨b, o, rfl, c1, by rw [Nat.add_assoc]; simpa using c2, by rw [Nat.add_assoc]; simpa using c3, by omega⟩
  have HC := Lib.hid hcell
  have HL := Lib.hid hlen
  clear h hlv hcell hlen
  go_enter Try.func30, Try.ntmps30
  go_wp2_with fail
  go_loopw [6, 7] (fun x _ wr => ∃ i : Nat, x = .int .i64 i ∧ i ≤ P.length ∧ Hid (∀ n, n < fromOf P i → adr n ≠ a) ∧ w = wr) (fun x _ _ => (P.length - intOf x).toNat)
  case atStart => exact ⟨0, rfl, by omega, Lib.hid fun n hn => by simp [fromOf, flat] at hn, rfl⟩
  case round =>
    obtain ⟨i, rfl, hi, hno, rfl⟩ := hrel
    by_cases hlt : i < P.length
    · obtain ⟨b, o, rfl, c1, c2, c3, hle⟩ := HC.out i hlt
      have hlt' : (i : Int) < P.length := by omega
      have hL := HL.out
      have HS := Lib.hid (fromOf_succ P i hlt)
      have hwho := Lib.hid (who_at P i · hlt)
      generalize hm : P[i].2.length = m at *
      generalize hfr : fromOf P i = fr at *
      generalize P[i].1 = f at *
      go_wp2_with fail
      go_loopw [7] (fun x wr => ∃ k : Nat, x = .int .i64 k ∧ k ≤ m ∧ Hid (∀ n, n < fr + k → adr n ≠ a) ∧ w = wr) (fun x _ => (m - intOf x).toNat)
      case atStart => exact ⟨0, rfl, by omega, Lib.hid fun n hn => hno.out n (by omega), rfl⟩
      case round =>
        obtain ⟨k, rfl, hk, hnk, rfl⟩ := hrel
        by_cases hkm : k < m
        · have hkm' : (k : Int) < m := by omega
          have hs : fr + k ≤ 1000000 := by omega
          by_cases ha : adr (fr + k) = a
          · go_wp2_with fail
            refine (ref_address _ (fr + k) hs).mono ?_
            rintro e w' ⟨rfl, rfl⟩
            rw [ha]
            go_wp2_with fail
            go_ret2
            exact ⟨.inl ⟨fr + k, by omega, ha, by have e := hwho.out (fr + k) (by omega) (by have := HS.out; omega); rw [e]; try rfl⟩, rfl⟩
          · have HA := Lib.hid ha
            have ha2 : ((adr (fr + k) : Int) == a) = false := by simp; omega
            go_wp2_with fail
            refine (ref_address _ (fr + k) hs).mono ?_
            rintro e w' ⟨rfl, rfl⟩
            generalize (adr (fr + k) : Int) = x at ha2
            clear ha
            go_wp2_with fail
            go_roundw
            case rel =>
              refine ⟨k + 1, by go_num, by omega, Lib.hid fun n hn => ?_, by trivial⟩
              rcases Nat.lt_or_ge n (fr + k) with h | h
              · exact hnk.out n h
              · obtain rfl : n = fr + k := by omega
                exact HA.out
            case measure => first | (simp [intOf]; done) | (simp [intOf]; omega)
        · obtain rfl : k = m := by omega
          go_wp2_with fail
          go_roundw
          case rel =>
            exact ⟨i + 1, by go_num, by omega, Lib.hid fun n hn => hnk.out n (by have := HS.out; omega), by trivial⟩
          case measure => first | (simp [intOf]; done) | (simp [intOf]; omega)
    · obtain rfl : i = P.length := by omega
      rw [fromOf_all] at hno
      go_wp2_with fail
      go_ret2
      exact ⟨.inr ⟨hno.out, rfl⟩, rfl⟩

end Go.Proofs.Ytpgmfifieilhkaa

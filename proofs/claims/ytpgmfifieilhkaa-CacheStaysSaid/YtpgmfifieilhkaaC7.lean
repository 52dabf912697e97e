import Derived.Test.YtpgmfifieilhkaaC6
namespace Go.Proofs.Ytpgmfifieilhkaa
open Go.RowKit

attribute [local go_sem] Program.isFuncB Program.isSliceB

variable {w w' w'' : World} {words : Nat} {P P' P'' : List (Nat × List Nat)} {s s' s'' : CS}

theorem CTo.trans (h : CTo w w' words P s P' s') (k : CTo w' w'' words P' s' P'' s'') : CTo w w'' words P s P'' s'' := by
  refine ⟨k.at_, k.b.trans h.b, fun i hi => ?_, h.fr.trans' k.fr fun i hi hn => (h.ft i hi).resolve_left hn⟩
  rcases k.ft i hi with h1 | h1
  · exact h.ft i h1
  · exact .inr (Nat.le_trans h.fr.size h1)

/-! ### Find -/
theorem find_no {v : Value} (h : Nobody w v) (a : Nat) : Calls Try.prog 22 #[v, .int .u64 a] w fun e w' => e = .returned (.tuple #[.int .i64 0, .bool false]) ∧ Fr no w w' := by
  have H := Lib.hid h
  obtain ⟨va, rfl⟩ := h.shape
  clear h
  go_enter Try.func22, Try.ntmps22
  go_wp2_with fail
  refine (ready_no H.out).mono ?_
  rintro e w1 ⟨rfl, r1⟩
  go_wp2_with fail
  go_ret2
  exact ⟨rfl, r1⟩

set_option maxRecDepth 100000 in
set_option maxHeartbeats 1000000 in
theorem find_low (h : CSt w words P s) (a : Nat) (ha : a < 4294967296 ∨ a % 4 ≠ 0) :
    Calls Try.prog 22 #[.pointer (some ⟨s.b, 0, none⟩), .int .u64 a] w fun e w' => e = .returned (.tuple #[.int .i64 (-1), .bool false]) ∧ ∃ s', CTo w w' words P s P s' := by
  have H := Lib.hid h
  clear h
  by_cases h0 : a < 4294967296
  · clear ha
    have hl : binOp .lss 33 (.int .u64 a) (.int .u64 4294967296) = pure (.bool true) := by rw [binOp_lss, decide_eq_true (by omega)]
    clear h0
    go_enter Try.func22, Try.ntmps22
    go_wp2_with fail
    refine (ready_yes H.out).mono ?_
    rintro e w1 ⟨rfl, s1, h1⟩
    have H1 := Lib.hid h1
    clear h1
    go_wp2_with fail
    go_ret2
    exact ⟨rfl, s1, H1.out⟩
  · have h2 : a % 4 ≠ 0 := by omega
    have h3 : ((a : Int) % 4 == 0) = false := by simp; omega
    have h4 : ((a : Int) % 4 != 0) = true := by simp; omega
    have hl : binOp .lss 33 (.int .u64 a) (.int .u64 4294967296) = pure (.bool false) := by rw [binOp_lss, decide_eq_false (by omega)]
    clear ha h0 h2
    go_enter Try.func22, Try.ntmps22
    go_wp2_with fail
    refine (ready_yes H.out).mono ?_
    rintro e w1 ⟨rfl, s1, h1⟩
    have H1 := Lib.hid h1
    clear h1
    go_wp2_with fail
    go_ret2
    exact ⟨rfl, s1, H1.out⟩

set_option maxRecDepth 100000 in
set_option maxHeartbeats 1000000 in
theorem find_past (h : CSt w words P s) (a : Nat) (h0 : 4294967296 ≤ a) (h2 : a % 4 = 0) (hp : adr (flat P).length ≤ a) :
    Calls Try.prog 22 #[.pointer (some ⟨s.b, 0, none⟩), .int .u64 a] w fun e w' => e = .returned (.tuple #[.int .i64 (-1), .bool false]) ∧ ∃ s', CTo w w' words P s P s' := by
  have H := Lib.hid h
  clear h
  have h3 : ((a : Int) % 4 == 0) = true := by simp; omega
  have h3' : (a : Int) % 4 = 0 := by omega
  have hl : binOp .lss 33 (.int .u64 a) (.int .u64 4294967296) = pure (.bool false) := by rw [binOp_lss, decide_eq_false (by omega)]
  have hge : ∀ al : Nat, al = adr (flat P).length → binOp .geq 33 (.int .u64 a) (.int .u64 al) = pure (.bool true) := by
    intro al e; rw [binOp_geq, decide_eq_true (by omega)]
  generalize hal : adr (flat P).length = al at *
  have hge := hge al rfl
  have HAL := Lib.hid hal
  clear h0 h2 hp hal
  go_enter Try.func22, Try.ntmps22
  go_wp2_with fail
  refine (ready_yes H.out).mono ?_
  rintro e w1 ⟨rfl, s1, h1⟩
  have hb := h1.b
  have hn := next_yes (.inl h1.at_)
  rw [hb, HAL.out] at hn
  have HN := Lib.hid hn
  have H1 := Lib.hid h1
  clear h1 hb hn
  go_wp2_with fail
  refine HN.out.mono ?_
  rintro e w2 ⟨rfl, s2, h2⟩
  have H2 := Lib.hid h2
  clear h2
  go_wp2_with fail
  go_ret2
  exact ⟨rfl, s2, H1.out.trans H2.out⟩

set_option maxRecDepth 100000 in
set_option maxHeartbeats 1000000 in
theorem find_yes (h : CSt w words P s) (n : Nat) (hp : n < (flat P).length) :
    Calls Try.prog 22 #[.pointer (some ⟨s.b, 0, none⟩), .int .u64 (adr n)] w fun e w' => e = .returned (.tuple #[.int .i64 (who P n), .bool true]) ∧ ∃ s', CTo w w' words P s P s' := by
  have hbound : (flat P).length ≤ 65536 := by
    rcases h with h | ⟨_, rfl⟩
    · exact Nat.le_trans h.ok.room h.ok.few
    · simp [flat]
  have H := Lib.hid h
  clear h
  have hea : adr n = 4294967296 + 4 * n := rfl
  have hel : adr (flat P).length = 4294967296 + 4 * (flat P).length := rfl
  generalize ha : adr n = a at *
  generalize hal : adr (flat P).length = al at *
  have h3 : ((a : Int) % 4 == 0) = true := by simp; omega
  have h3' : (a : Int) % 4 = 0 := by omega
  have hl : binOp .lss 33 (.int .u64 a) (.int .u64 4294967296) = pure (.bool false) := by rw [binOp_lss, decide_eq_false (by omega)]
  have hge : binOp .geq 33 (.int .u64 a) (.int .u64 al) = pure (.bool false) := by rw [binOp_geq, decide_eq_false (by omega)]
  have hsub : binOp .sub 33 (.int .u64 a) (.int .u64 4294967296) = pure (.int .u64 (4 * n : Int)) := by
    have : (a : Int) - 4294967296 = 4 * n := by omega
    simp only [go_sem]
    rw [this]
    have e4 : IntKind.u64.wrap (4 * (n : Int)) = 4 * n := by (unfold IntKind.wrap; simp [IntKind.bits, IntKind.signed]; omega)
    rw [e4]
  have hn4 : (4 * (n : Int)).tdiv 4 = n := Int.mul_tdiv_cancel_left _ (by decide)
  have hnb : (n : Int) < 1000000 := by omega
  have HAL := Lib.hid hal
  have HA := Lib.hid ha
  have HP := Lib.hid hp
  clear ha hal hel hea hbound
  go_enter Try.func22, Try.ntmps22
  go_wp2_with fail
  refine (ready_yes H.out).mono ?_
  rintro e w1 ⟨rfl, s1, h1⟩
  have hb := h1.b
  have hn := next_yes (.inl h1.at_)
  rw [hb, HAL.out] at hn
  have HN := Lib.hid hn
  have H1 := Lib.hid h1
  clear h1 hb hn
  go_wp2_with fail
  refine HN.out.mono ?_
  rintro e w2 ⟨rfl, s2, h2⟩
  have hb2 : s2.b = s.b := h2.b.trans H1.out.b
  clear hp
  obtain ⟨la, lk, hlv⟩ := owns_shape h2.at_.lies
  have e7 : w2.cell? ⟨s.b, 7, none⟩ = some (.slice la P.length lk) := by rw [← hb2, ← hlv]; exact cell_of_heap h2.at_.obj rfl
  have hs := search_any h2.at_ n HP.out la lk hlv
  have hlies := h2.at_.lies
  rw [hlv] at hlies
  have HL := Lib.hid hlies
  have HS := Lib.hid hs
  have H2 := Lib.hid h2
  clear h2 hlv hs hlies hb2
  go_wp2_with fail
  refine HS.out.mono ?_
  rintro e w' ⟨⟨i, b, rfl, hi, k1, k2⟩, q, rfl⟩
  have hw := who_at P i n hi k1 k2
  obtain ⟨bb, o, rfl, c1⟩ := (owns_reads HL.out).at1 (k := i) (u := .pointer (some ⟨s2.lp P[i].1, 0, none⟩)) (by simp [hi])
  have c2 : w2.cell? ⟨s2.lp P[i].1, 0, none⟩ = some (.int .i64 P[i].1) := cell_of_heap (o := 0) (H2.out.at_.lie i hi) rfl
  generalize s2.lp P[i].1 = lp at c1 c2
  rw [← hw] at c2
  have hi' : (i : Int) < P.length := by omega
  clear hw k1 k2
  clear h3 h3' hl hge hsub hn4 hnb
  go_wp2_with fail
  go_ret2
  exact ⟨rfl, s2, H1.out.trans (H2.out.trans (CTo.same H2.out.at_ ((Fr.refl no w2).drewN q)))⟩

end Go.Proofs.Ytpgmfifieilhkaa

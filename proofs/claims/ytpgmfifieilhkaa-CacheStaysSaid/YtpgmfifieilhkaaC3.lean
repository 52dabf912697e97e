import Derived.Test.YtpgmfifieilhkaaC2
namespace Go.Proofs.Ytpgmfifieilhkaa
open Go.RowKit

attribute [local go_sem] Program.isFuncB Program.isSliceB

variable {w w' : World} {words : Nat} {P : List (Nat × List Nat)} {s : CS}

/-! ### Address -/
theorem idx_of {P : List (Nat × List Nat)} {f : Nat} (h : f ∈ P.map (·.1)) : ∃ i, ∃ hi : i < P.length, P[i].1 = f := by
  obtain ⟨x, hx, rfl⟩ := List.mem_map.1 h
  obtain ⟨i, hi, rfl⟩ := List.getElem_of_mem hx
  exact ⟨i, hi, rfl⟩

set_option maxHeartbeats 1000000 in
theorem address_yes (h : CSt w words P s) (i : Nat) (hi : i < P.length) :
    Calls Try.prog 16 #[.pointer (some ⟨s.b, 0, none⟩), .int .i64 P[i].1] w fun e w' => e = .returned (.tuple #[.int .u64 (adr (fromOf P i)), .bool true]) ∧ ∃ s', CTo w w' words P s P s' := by
  have H := Lib.hid h
  clear h
  have hm : P[i].1 ∈ P.map (·.1) := List.mem_map_of_mem (List.getElem_mem hi)
  have HM := Lib.hid hm
  have hfl : fromOf P i ≤ (flat P).length := by
    have : flat P = flat (P.take i) ++ flat (P.drop i) := by rw [flat, flat, flat, ← List.flatMap_append, List.take_append_drop]
    unfold fromOf; rw [this]; simp
  generalize hf : P[i].1 = f at *
  have HF := Lib.hid hf
  clear hm hf
  go_enter Try.func16, Try.ntmps16
  go_wp2_with fail
  refine (ready_yes H.out).mono ?_
  rintro e w1 ⟨rfl, s1, h1⟩
  have hb := h1.b
  obtain ⟨c, hc1, hc2⟩ := h1.at_.of_
  have hf64 : f < 64 := by have := (h1.at_.ok.lt P[i] (List.getElem_mem hi)).1; rw [HF.out] at this; exact this
  have e6 : w1.cell? ⟨s.b, 6, none⟩ = some (.pointer (some ⟨s1.g, 0, none⟩)) := by rw [← hb]; exact cell_of_heap h1.at_.obj rfl
  have eg : w1.cell? ⟨s1.g, f, none⟩ = some (.pointer (some ⟨s1.lp f, 0, none⟩)) := by
    have := cell_of_heap hc1 (hc2 f hf64)
    rwa [ofCell, if_pos HM.out] at this
  have el : w1.cell? ⟨s1.lp f, 1, none⟩ = some (.int .i64 (fromOf P i)) := by
    have := cell_of_heap (o := 1) (h1.at_.lie i hi) rfl
    rwa [HF.out] at this
  have hlen : (flat P).length ≤ 65536 := Nat.le_trans h1.at_.ok.room h1.at_.ok.few
  have H1 := Lib.hid h1
  clear h1 hb hc1 hc2
  go_wp2_with fail
  refine (address_any _ _ (by omega)).mono ?_
  rintro e w' ⟨rfl, rfl⟩
  go_wp2_with fail
  go_ret2
  exact ⟨rfl, s1, H1.out⟩

set_option maxHeartbeats 1000000 in
theorem address_none (h : CSt w words P s) (f : Nat) (hf : f < 64) (hm : f ∉ P.map (·.1)) :
    Calls Try.prog 16 #[.pointer (some ⟨s.b, 0, none⟩), .int .i64 f] w fun e w' => e = .returned (.tuple #[.int .u64 0, .bool false]) ∧ ∃ s', CTo w w' words P s P s' := by
  have H := Lib.hid h
  have HM := Lib.hid hm
  clear h hm
  go_enter Try.func16, Try.ntmps16
  go_wp2_with fail
  refine (ready_yes H.out).mono ?_
  rintro e w1 ⟨rfl, s1, h1⟩
  have hb := h1.b
  obtain ⟨c, hc1, hc2⟩ := h1.at_.of_
  have e6 : w1.cell? ⟨s.b, 6, none⟩ = some (.pointer (some ⟨s1.g, 0, none⟩)) := by rw [← hb]; exact cell_of_heap h1.at_.obj rfl
  have eg : w1.cell? ⟨s1.g, f, none⟩ = some (.pointer none) := by
    have := cell_of_heap hc1 (hc2 f hf)
    rwa [ofCell, if_neg HM.out] at this
  have H1 := Lib.hid h1
  clear h1 hb hc1 hc2
  go_wp2_with fail
  go_ret2
  exact ⟨rfl, s1, H1.out⟩

set_option maxHeartbeats 1000000 in
theorem address_far (h : CSt w words P s) (f : Int) (hf : f < 0 ∨ 64 ≤ f) :
    Calls Try.prog 16 #[.pointer (some ⟨s.b, 0, none⟩), .int .i64 f] w fun e w' => e = .returned (.tuple #[.int .u64 0, .bool false]) ∧ ∃ s', CTo w w' words P s P s' := by
  have H := Lib.hid h
  clear h
  by_cases h0 : f < 0
  · clear hf
    go_enter Try.func16, Try.ntmps16
    go_wp2_with fail
    refine (ready_yes H.out).mono ?_
    rintro e w1 ⟨rfl, s1, h1⟩
    have H1 := Lib.hid h1
    clear h1
    go_wp2_with fail
    go_ret2
    exact ⟨rfl, s1, H1.out⟩
  · have h2 : 64 ≤ f := by omega
    clear hf
    go_enter Try.func16, Try.ntmps16
    go_wp2_with fail
    refine (ready_yes H.out).mono ?_
    rintro e w1 ⟨rfl, s1, h1⟩
    have H1 := Lib.hid h1
    clear h1
    go_wp2_with fail
    go_ret2
    exact ⟨rfl, s1, H1.out⟩

set_option maxHeartbeats 1000000 in
theorem address_no {v : Value} (h : Nobody w v) (f : Int) : Calls Try.prog 16 #[v, .int .i64 f] w fun e w' => e = .returned (.tuple #[.int .u64 0, .bool false]) ∧ Fr no w w' := by
  have H := Lib.hid h
  obtain ⟨a, rfl⟩ := h.shape
  clear h
  go_enter Try.func16, Try.ntmps16
  go_wp2_with fail
  refine (ready_no H.out).mono ?_
  rintro e w1 ⟨rfl, r1⟩
  go_wp2_with fail
  go_ret2
  exact ⟨rfl, r1⟩

/-! ### Put -/
set_option maxRecDepth 100000 in
set_option maxHeartbeats 1000000 in
theorem put_no {v : Value} (h : Nobody w v) (f : Int) (x : Value) : Calls Try.prog 12 #[v, .int .i64 f, x] w fun e w' => e = .returned (.tuple #[.int .u64 0, .int .i64 1]) ∧ Fr no w w' := by
  have H := Lib.hid h
  obtain ⟨a, rfl⟩ := h.shape
  clear h
  go_enter Try.func12, Try.ntmps12
  go_wp2_with fail
  refine (ready_no H.out).mono ?_
  rintro e w1 ⟨rfl, r1⟩
  go_wp2_with fail
  go_ret2
  exact ⟨rfl, r1⟩

set_option maxRecDepth 100000 in
set_option maxHeartbeats 1000000 in
theorem put_arg (h : CSt w words P s) (f : Int) (xa : Option Addr) (n c : Nat) (hf : f < 0 ∨ 64 ≤ f ∨ n = 0) (hn : n ≤ 9223372036854775807) :
    Calls Try.prog 12 #[.pointer (some ⟨s.b, 0, none⟩), .int .i64 f, .slice xa n c] w fun e w' => e = .returned (.tuple #[.int .u64 0, .int .i64 2]) ∧ ∃ s', CTo w w' words P s P s' := by
  have H := Lib.hid h
  clear h
  by_cases h0 : f < 0
  · clear hf
    go_enter Try.func12, Try.ntmps12
    go_wp2_with fail
    refine (ready_yes H.out).mono ?_
    rintro e w1 ⟨rfl, s1, h1⟩
    have H1 := Lib.hid h1
    clear h1
    go_wp2_with fail
    go_ret2
    exact ⟨rfl, s1, H1.out⟩
  by_cases h2 : 64 ≤ f
  · clear hf
    go_enter Try.func12, Try.ntmps12
    go_wp2_with fail
    refine (ready_yes H.out).mono ?_
    rintro e w1 ⟨rfl, s1, h1⟩
    have H1 := Lib.hid h1
    clear h1
    go_wp2_with fail
    go_ret2
    exact ⟨rfl, s1, H1.out⟩
  · obtain rfl : n = 0 := by omega
    clear hf
    go_enter Try.func12, Try.ntmps12
    go_wp2_with fail
    refine (ready_yes H.out).mono ?_
    rintro e w1 ⟨rfl, s1, h1⟩
    have H1 := Lib.hid h1
    clear h1
    go_wp2_with fail
    go_ret2
    exact ⟨rfl, s1, H1.out⟩

set_option maxRecDepth 100000 in
set_option maxHeartbeats 1000000 in
theorem put_exists (h : CSt w words P s) (f : Nat) (hf : f < 64) (hm : f ∈ P.map (·.1)) (xa : Option Addr) (n c : Nat) (hn : 0 < n) :
    Calls Try.prog 12 #[.pointer (some ⟨s.b, 0, none⟩), .int .i64 f, .slice xa n c] w fun e w' => e = .returned (.tuple #[.int .u64 0, .int .i64 7]) ∧ ∃ s', CTo w w' words P s P s' := by
  have H := Lib.hid h
  have HM := Lib.hid hm
  clear h hm
  have hn1 : ((n : Int) == 0) = false := by simp; omega
  have hn2 : (n == 0) = false := by simp; omega
  go_enter Try.func12, Try.ntmps12
  go_wp2_with fail
  refine (ready_yes H.out).mono ?_
  rintro e w1 ⟨rfl, s1, h1⟩
  have hb := h1.b
  obtain ⟨cc, hc1, hc2⟩ := h1.at_.of_
  have e6 : w1.cell? ⟨s.b, 6, none⟩ = some (.pointer (some ⟨s1.g, 0, none⟩)) := by rw [← hb]; exact cell_of_heap h1.at_.obj rfl
  have eg : w1.cell? ⟨s1.g, f, none⟩ = some (.pointer (some ⟨s1.lp f, 0, none⟩)) := by
    have := cell_of_heap hc1 (hc2 f hf)
    rwa [ofCell, if_pos HM.out] at this
  have H1 := Lib.hid h1
  clear h1 hb hc1 hc2
  go_wp2_with fail
  go_ret2
  exact ⟨rfl, s1, H1.out⟩

set_option maxRecDepth 100000 in
set_option maxHeartbeats 1000000 in
theorem put_full (h : CSt w words P s) (f : Nat) (hf : f < 64) (hm : f ∉ P.map (·.1)) (xa : Option Addr) (n c : Nat) (hn : 0 < n) (hr : words - (flat P).length < n) :
    Calls Try.prog 12 #[.pointer (some ⟨s.b, 0, none⟩), .int .i64 f, .slice xa n c] w fun e w' => e = .returned (.tuple #[.int .u64 0, .int .i64 8]) ∧ ∃ s', CTo w w' words P s P s' := by
  have H := Lib.hid h
  have HM := Lib.hid hm
  clear h hm
  have hn1 : ((n : Int) == 0) = false := by simp; omega
  have hn2 : (n == 0) = false := by simp; omega
  go_enter Try.func12, Try.ntmps12
  go_wp2_with fail
  refine (ready_yes H.out).mono ?_
  rintro e w1 ⟨rfl, s1, h1⟩
  have hb := h1.b
  obtain ⟨cc, hc1, hc2⟩ := h1.at_.of_
  obtain ⟨ca, ck, hcv⟩ := owns_shape h1.at_.code
  have e1 : w1.cell? ⟨s.b, 1, none⟩ = some (.int .i64 words) := by rw [← hb]; exact cell_of_heap h1.at_.obj rfl
  have e5 : w1.cell? ⟨s.b, 5, none⟩ = some (.slice ca (flat P).length ck) := by rw [← hb, ← hcv]; exact cell_of_heap h1.at_.obj rfl
  have e6 : w1.cell? ⟨s.b, 6, none⟩ = some (.pointer (some ⟨s1.g, 0, none⟩)) := by rw [← hb]; exact cell_of_heap h1.at_.obj rfl
  have eg : w1.cell? ⟨s1.g, f, none⟩ = some (.pointer none) := by
    have := cell_of_heap hc1 (hc2 f hf)
    rwa [ofCell, if_neg HM.out] at this
  have hroom := h1.at_.ok.room
  have hfew := h1.at_.ok.few
  have H1 := Lib.hid h1
  clear h1 hb hc1 hc2 hcv
  have hlt : (words : Int) - (flat P).length < n := by omega
  go_wp2_with fail
  go_quiet (fail)
  go_wp2_with fail
  go_ret2
  obtain ⟨a1, a2, a3, a4⟩ := H1.out
  exact ⟨rfl, s1, a1.fr ((Fr.refl no w1).drewN _) (by simp), a2, a3, a4.drewN _⟩

end Go.Proofs.Ytpgmfifieilhkaa

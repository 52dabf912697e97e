import Derived.Test.YtfiabeibiehlaaaW2
namespace Go.Proofs.Ytfiabeibiehlaaa
open Go.RowKit

attribute [local go_sem] Program.isFuncB Program.isSliceB

set_option maxHeartbeats 400000 in
theorem says_no {w : World} {s : PS} {b ba bp : Nat} {sv : Value} (h : PolAt w s b ba bp sv) (h0 : s.scr.length ≤ s.at_) (hm : s.at_ < 1000000) :
    Calls Try.prog 26 #[.pointer (some ⟨ba, 0, none⟩), .pointer (some ⟨bp, 0, none⟩)] w fun e w' => e = .returned (.tuple #[.bool false, .bool false]) ∧ ∃ n, w.drewN n = w' := by
  have c1 := cell_of_one h.at_
  have c2 := cell_of_one h.self
  have c3 := h.scr
  rcases h.list with ⟨rfl, h2⟩ | ⟨bs, o, cap, rfl, h1, h2, h3⟩
  · have H2 := Lib.hid h2; clear h2
    go_enter Try.func26, Try.ntmps26
    go_wp2
    go_quiet (fail)
    go_wp2
    go_ret2
    exact ⟨rfl, _, rfl⟩
  · clear h3
    go_enter Try.func26, Try.ntmps26
    go_wp2
    go_quiet (fail)
    go_wp2
    go_ret2
    exact ⟨rfl, _, rfl⟩

set_option maxHeartbeats 400000 in
theorem says_yes {w : World} {s : PS} {b ba bp : Nat} {sv : Value} (h : PolAt w s b ba bp sv) (h0 : s.at_ < s.scr.length) (hm : s.at_ < 1000000) :
    Calls Try.prog 26 #[.pointer (some ⟨ba, 0, none⟩), .pointer (some ⟨bp, 0, none⟩)] w fun e w' => e = .returned (.tuple #[.bool s.scr[s.at_], .bool true]) ∧
      PolAt w' { s with at_ := s.at_ + 1 } b ba bp sv ∧ Fr (only [ba]) w w' := by
  have c1 := cell_of_one h.at_
  have f1 := free_of_one h.at_
  have c2 := cell_of_one h.self
  have c3 := h.scr
  rcases h.list with ⟨rfl, h2⟩ | ⟨bs, o, cap, rfl, h1, h2, h3⟩
  · rw [h2] at h0; simp at h0
  · have h3' := h3 _ h0
    clear h3
    go_enter Try.func26, Try.ntmps26
    go_wp2
    go_quiet (fail)
    go_wp2
    have hp := (h.drewN nq).store_at (s.at_ + 1) (↑s.at_ + 1) (by simp)
    have hfr : Fr (only [ba]) w ((w.drewN nq).setCell ⟨ba, 0, none⟩ (.int .i64 (↑s.at_ + 1))) := ((Fr.refl _ _).drewN nq).setCell _ _ (.inl (by simp))
    have c4 := cell_of_one hp.at_
    have c5 := cell_of_one hp.self
    have c6 := hp.scr
    have c7 := hfr.cell h3' (by have := h.apart bs rfl; simp; omega)
    clear c1 f1 c2 c3 h3'
    simp only [Int.natCast_add, Int.natCast_one] at c4
    generalize ((w.drewN nq).setCell ⟨ba, 0, none⟩ (.int .i64 (↑s.at_ + 1))) = w1 at hp hfr c4 c5 c6 c7 ⊢
    have hz : (s.at_ : Int) < s.scr.length := by omega
    go_quiet (fail)
    go_wp2
    go_ret2
    exact ⟨rfl, hp.drewN _, hfr.drewN _⟩

set_option maxHeartbeats 400000 in
theorem decide_yes {w : World} {s : PS} {b ba bp : Nat} {sv : Value} (h : PolAt w s b ba bp sv) (hm : s.at_ < 1000000) (ha : s.asked < 1000000) (f : Nat) (hc : s.cnt f < 1000000) (hf : f < 64) :
    Calls Try.prog 11 #[.pointer (some ⟨b, 0, none⟩), .int .i64 f] w fun e w' => e = .returned (.bool (s.answer f)) ∧ PolAt w' (s.next f) b ba bp sv ∧ Fr (only [b, ba]) w w' := by
  have c1 := h.says
  unfold saysOf at c1
  go_enter Try.func11, Try.ntmps11
  go_wp2_with fail
  refine (none_no b 0 _ _ _ _ c1).mono ?_
  rintro e w' ⟨rfl, rfl⟩
  go_wp2_with fail
  refine (there_yes _ _ (by omega) (by omega)).mono ?_
  rintro e w' ⟨rfl, rfl⟩
  go_wp2_with fail
  have fz := h.blk
  obtain ⟨c, hcc⟩ := fz
  refine (add_any b 66 s.asked 1 (s.asked + 1) _ h.asked (frozen_of hcc) (by omega) (by omega) rfl).mono ?_
  rintro e w1 ⟨rfl, hw1⟩
  have h1 := h.store_asked (s.asked + 1) (s.asked + 1) (by simp)
  have r1 : Fr (only [b, ba]) w (w.setCell ⟨b, 66, none⟩ (.int .i64 (s.asked + 1))) := (Fr.refl _ _).setCell _ _ (.inl (by simp))
  rw [hw1] at h1 r1
  clear hw1 hcc c1
  go_wp2_with fail
  obtain ⟨c, hcc⟩ := h1.blk
  have := h1.cnt f hf
  refine (add_any b (2 + f) (s.cnt f) 1 (s.cnt f + 1) _ this (frozen_of hcc) (by omega) (by omega) rfl).mono ?_
  rintro e w2 ⟨rfl, hw2⟩
  have h2 := h1.store_cnt f (s.cnt f + 1) (s.cnt f + 1) (by simp) hf
  have r2 := r1.setCell ⟨b, 2 + f, none⟩ (.int .i64 (s.cnt f + 1)) (.inl (by simp))
  rw [hw2] at h2 r2
  clear hw2 hcc this h1 r1
  have c1 := h2.says
  unfold saysOf at c1
  go_wp2_with fail
  by_cases hat : s.at_ < s.scr.length
  · refine (says_yes h2 hat hm).mono ?_
    rintro e w3 ⟨rfl, h3, r3⟩
    clear c1
    go_wp2_with fail
    go_ret
    refine ⟨?_, ?_, r2.trans (r3.mono (by simp))⟩
    · simp [PS.answer, hat]
    · simpa [PS.next, hat] using h3
  · refine (says_no h2 (by simpa using hat) hm).mono ?_
    rintro e w3 ⟨rfl, n3, rfl⟩
    clear c1
    have c1 := h2.thr
    have h4 : PolAt (w2.drewN n3) (s.next f) b ba bp sv := by simpa [PS.next, hat] using h2.drewN n3
    by_cases ht : s.thr = 0
    · have ht' : ((s.thr : Int) != 0) = false := by simp [ht]
      have HF : Hid (s.answer f = false) := by unfold Hid; simp [PS.answer, hat, ht]
      clear ht
      go_wp2_with fail
      go_ret
      exact ⟨by rw [HF.out]; rfl, h4, r2.drewN n3⟩
    · have ht' : ((s.thr : Int) != 0) = true := by simp [ht]
      have HF : Hid (s.answer f = decide ((s.thr : Int) ≤ (s.cnt f : Int) + 1)) := by
        unfold Hid
        have : (s.thr ≤ s.cnt f + 1) ↔ ((s.thr : Int) ≤ (s.cnt f : Int) + 1) := by omega
        simp [PS.answer, hat, ht, this]
      clear ht
      go_wp2_with fail
      go_ret
      exact ⟨by rw [HF.out]; rfl, h4, r2.drewN n3⟩

set_option maxHeartbeats 400000 in
theorem decide_no {w : World} {s : PS} {b ba bp : Nat} {sv : Value} (h : PolAt w s b ba bp sv) (f : Int) (hf : f < 0 ∨ 64 ≤ f) :
    Calls Try.prog 11 #[.pointer (some ⟨b, 0, none⟩), .int .i64 f] w fun e w' => e = .returned (.bool false) ∧ w = w' := by
  have c1 := h.says
  unfold saysOf at c1
  go_enter Try.func11, Try.ntmps11
  go_wp2_with fail
  refine (none_no b 0 _ _ _ _ c1).mono ?_
  rintro e w' ⟨rfl, rfl⟩
  go_wp2_with fail
  refine (there_no _ _ hf).mono ?_
  rintro e w' ⟨rfl, rfl⟩
  go_wp2_with fail
  go_ret
  exact ⟨rfl, rfl⟩

set_option maxHeartbeats 400000 in
theorem asked_any {w : World} {s : PS} {b ba bp : Nat} {sv : Value} (h : PolAt w s b ba bp sv) :
    Calls Try.prog 13 #[.pointer (some ⟨b, 0, none⟩)] w fun e w' => e = .returned (.int .i64 s.asked) ∧ w = w' := by
  have c1 := h.says
  unfold saysOf at c1
  go_enter Try.func13, Try.ntmps13
  go_wp2_with fail
  refine (none_no b 0 _ _ _ _ c1).mono ?_
  rintro e w' ⟨rfl, rfl⟩
  go_wp2_with fail
  refine (load_any b 66 _ _ h.asked).mono ?_
  rintro e w' ⟨rfl, rfl⟩
  go_wp2_with fail
  go_ret
  exact ⟨rfl, rfl⟩

set_option maxHeartbeats 400000 in
theorem count_yes {w : World} {s : PS} {b ba bp : Nat} {sv : Value} (h : PolAt w s b ba bp sv) (f : Nat) (hf : f < 64) :
    Calls Try.prog 14 #[.pointer (some ⟨b, 0, none⟩), .int .i64 f] w fun e w' => e = .returned (.int .i64 (s.cnt f)) ∧ w = w' := by
  have c1 := h.says
  unfold saysOf at c1
  go_enter Try.func14, Try.ntmps14
  go_wp2_with fail
  refine (none_no b 0 _ _ _ _ c1).mono ?_
  rintro e w' ⟨rfl, rfl⟩
  go_wp2_with fail
  refine (there_yes _ _ (by omega) (by omega)).mono ?_
  rintro e w' ⟨rfl, rfl⟩
  go_wp2_with fail
  refine (load_any b (2 + f) _ _ (h.cnt f hf)).mono ?_
  rintro e w' ⟨rfl, rfl⟩
  go_wp2_with fail
  go_ret
  exact ⟨rfl, rfl⟩

set_option maxHeartbeats 400000 in
theorem count_no {w : World} {s : PS} {b ba bp : Nat} {sv : Value} (h : PolAt w s b ba bp sv) (f : Int) (hf : f < 0 ∨ 64 ≤ f) :
    Calls Try.prog 14 #[.pointer (some ⟨b, 0, none⟩), .int .i64 f] w fun e w' => e = .returned (.int .i64 0) ∧ w = w' := by
  have c1 := h.says
  unfold saysOf at c1
  go_enter Try.func14, Try.ntmps14
  go_wp2_with fail
  refine (none_no b 0 _ _ _ _ c1).mono ?_
  rintro e w' ⟨rfl, rfl⟩
  go_wp2_with fail
  refine (there_no _ _ hf).mono ?_
  rintro e w' ⟨rfl, rfl⟩
  go_wp2_with fail
  go_ret
  exact ⟨rfl, rfl⟩

end Go.Proofs.Ytfiabeibiehlaaa

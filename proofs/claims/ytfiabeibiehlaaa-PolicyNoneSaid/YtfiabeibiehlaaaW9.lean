import Derived.Test.YtfiabeibiehlaaaW8
namespace Go.Proofs.Ytfiabeibiehlaaa
open Go.RowKit

attribute [local go_sem] Program.isFuncB Program.isSliceB

set_option maxHeartbeats 400000 in
theorem says_pol_no {w : World} {scr : List Bool} {thr : Nat} {L : List Nat} {b ba bp : Nat} {sv : Value} (h : Pol w scr thr L b ba bp sv) (f : Int) (hf : f < 0 ∨ 64 ≤ f) (x : Bool) :
    Calls Try.prog 16 #[.pointer (some ⟨b, 0, none⟩), .int .i64 f, .bool x] w fun e w' => e = .returned (.bool !x) ∧ w = w' := by
  go_enter Try.func16, Try.ntmps16
  go_wp2_with fail
  refine (decide_pol_no h f hf).mono ?_
  rintro e w1 ⟨rfl, rfl⟩
  go_wp2_with fail
  go_ret
  exact ⟨rfl, rfl⟩

set_option maxHeartbeats 400000 in
theorem known_any (w : World) : Calls Try.prog 4 #[] w fun e w' => e = .returned (.bool true) ∧ Fr no w w' := by
  go_enter Try.func4, Try.ntmps4
  go_wp2_with fail
  refine (new_yes _ _ [] (.inl ⟨rfl, rfl, rfl⟩) (by simp) 0 (by omega)).mono ?_
  rintro e w1 ⟨b, ba, bp, sv, rfl, h1, r1, k1, k2, k3, k4⟩
  go_wp2_with fail
  refine (new_no _ _ (-1) (by omega)).mono ?_
  rintro e w' ⟨rfl, rfl⟩
  go_wp2_with fail
  refine (awake_any _).mono ?_
  rintro e w2 ⟨rfl, r2⟩
  have h2 := h1.fr r2 (by simp) (by simp) (by simp) (by simp)
  have r2 := r1.trans r2
  clear h1 r1
  go_wp2_with fail
  refine (says_pol h2 (by simp) 0 (by omega) false).mono ?_
  rintro e w3 ⟨rfl, h3, r3⟩
  have r3 : Fr no w w3 := r2.trans' r3 (by simp; omega)
  clear h2 r2
  simp only [List.nil_append] at h3
  rw [show (pans [] 0 [] 0 == false) = true from rfl]
  go_wp2_with fail
  refine (says_pol_no h3 64 (by omega) false).mono ?_
  rintro e w' ⟨rfl, rfl⟩
  go_wp2_with fail
  refine (asked_pol h3).mono ?_
  rintro e w' ⟨rfl, rfl⟩
  go_wp2_with fail
  go_ret
  exact ⟨rfl, r3⟩

end Go.Proofs.Ytfiabeibiehlaaa

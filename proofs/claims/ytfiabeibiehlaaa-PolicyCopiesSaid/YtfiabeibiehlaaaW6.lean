import Derived.Test.YtfiabeibiehlaaaW5
namespace Go.Proofs.Ytfiabeibiehlaaa
open Go.RowKit

attribute [local go_sem] Program.isFuncB Program.isSliceB

set_option maxHeartbeats 400000 in
theorem awake_any (w : World) : Calls Try.prog 8 #[] w fun e w' => e = .returned (.bool true) ∧ Fr no w w' := by
  have r0 : Fr no w (w.alloc (.cells #[.bool true, .bool false] 4)) := (Fr.refl _ _).alloc _
  have hb : BoolsAt (w.alloc (.cells #[.bool true, .bool false] 4)) (.slice (some ⟨w.heap.size, 0, none⟩) 2 2) [true, false] := by
    refine .inr ⟨_, _, 2, rfl, by simp, by omega, fun i hi => ?_⟩
    have : i = 0 ∨ i = 1 := by simp at hi; omega
    rcases this with rfl | rfl <;> simp
  go_enter Try.func8, Try.ntmps8
  go_wp2_with fail
  refine (new_yes _ _ _ hb.reads (by simp) 2 (by omega)).mono ?_
  rintro e w1 ⟨b, ba, bp, sv, rfl, h1, r1, k1, k2, k3, k4⟩
  simp at k1 k2
  have r1 := r0.trans r1
  clear hb
  go_wp2_with fail
  refine (says_pol h1 (by simp) 0 (by omega) true).mono ?_
  rintro e w2 ⟨rfl, h2, r2⟩
  have r2 : Fr no w w2 := r1.trans' r2 (by simp; omega)
  clear h1 r1
  simp only [List.nil_append] at h2
  rw [show (pans [true, false] 2 [] 0 == true) = true from rfl]
  go_wp2_with fail
  refine (says_pol h2 (by simp) 1 (by omega) false).mono ?_
  rintro e w3 ⟨rfl, h3, r3⟩
  have r3 : Fr no w w3 := r2.trans' r3 (by simp; omega)
  clear h2 r2
  rw [show (pans [true, false] 2 [0] 1 == false) = true from rfl]
  simp only [List.nil_append, List.cons_append] at h3
  go_wp2_with fail
  refine (says_pol h3 (by simp) 1 (by omega) true).mono ?_
  rintro e w4 ⟨rfl, h4, r4⟩
  have r4 : Fr no w w4 := r3.trans' r4 (by simp; omega)
  clear h3 r3
  rw [show (pans [true, false] 2 [0, 1] 1 == true) = true from rfl]
  simp only [List.nil_append, List.cons_append] at h4
  go_wp2_with fail
  refine (says_pol h4 (by simp) 0 (by omega) true).mono ?_
  rintro e w5 ⟨rfl, h5, r5⟩
  have r5 : Fr no w w5 := r4.trans' r5 (by simp; omega)
  clear h4 r4
  rw [show (pans [true, false] 2 [0, 1, 1] 0 == true) = true from rfl]
  simp only [List.nil_append, List.cons_append] at h5
  go_wp2_with fail
  refine (says_pol h5 (by simp) 5 (by omega) false).mono ?_
  rintro e w6 ⟨rfl, h6, r6⟩
  have r6 : Fr no w w6 := r5.trans' r6 (by simp; omega)
  clear h5 r5
  rw [show (pans [true, false] 2 [0, 1, 1, 0] 5 == false) = true from rfl]
  simp only [List.nil_append, List.cons_append] at h6
  go_wp2_with fail
  refine (asked_pol h6).mono ?_
  rintro e w7 ⟨rfl, rfl⟩
  go_wp2_with fail
  refine (count_pol h6 0 (by omega)).mono ?_
  rintro e w7 ⟨rfl, rfl⟩
  rw [show List.count 0 [0, 1, 1, 0, 5] = 2 from rfl]
  go_wp2_with fail
  go_ret
  exact ⟨rfl, r6⟩

end Go.Proofs.Ytfiabeibiehlaaa

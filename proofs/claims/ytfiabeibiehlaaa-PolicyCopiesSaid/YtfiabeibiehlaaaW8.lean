import Derived.Test.YtfiabeibiehlaaaW7
namespace Go.Proofs.Ytfiabeibiehlaaa
open Go.RowKit

attribute [local go_sem] Program.isFuncB Program.isSliceB

set_option maxHeartbeats 400000 in
theorem refdecide_no (w : World) (p : Value) (f : Int) (hf : f < 0 ∨ 64 ≤ f) :
    Calls Try.prog 12 #[p, .int .i64 f] w fun e w' => e = .returned (.bool false) ∧ w = w' := by
  by_cases h : f < 0
  · go_enter Try.func12, Try.ntmps12
    go_wp2_with fail
    go_ret
    exact ⟨rfl, rfl⟩
  · have h2 : 64 ≤ f := by omega
    clear hf
    go_enter Try.func12, Try.ntmps12
    go_wp2_with fail
    go_ret
    exact ⟨rfl, rfl⟩

set_option maxHeartbeats 400000 in
theorem refdecide_yes {w : World} {scr : List Bool} {thr : Nat} {L : List Nat} {br B : Nat} {sv lv : Value} (h : RefAt w scr thr L br B sv lv) (hB : B ≤ w.heap.size) (hL : L.length < 900000) (hT : thr ≤ 2147483647) (f : Nat) (hf : f < 64) :
    Calls Try.prog 12 #[.pointer (some ⟨br, 0, none⟩), .int .i64 f] w fun e w' => e = .returned (.bool (pans scr thr L f)) ∧ (∃ lv', RefAt w' scr thr (L ++ [f]) br B sv lv') ∧ Fr (onlyFrom [br] B) w w' := by
  have c2 : w.cell? ⟨br, 2, none⟩ = some lv := cell_of_heap h.blk rfl
  have f2 : w.frozen? ⟨br, 2, none⟩ = false := frozen_of_heap h.blk
  have HO := Lib.hid (owns_fr h.own ((Fr.refl no w).alloc (.cells #[.int .i64 f] 3)) (by simp))
  obtain ⟨la, lc, rfl⟩ := owns_shape h.own
  have hne := h.lt
  have hsep := h.sep
  have hlt := h.own.lt
  have hbr := (Array.getElem?_eq_some_iff.1 h.blk).1
  go_enter Try.func12, Try.ntmps12
  go_wp2_with (at_builtin; refine wpList_append_any rfl _ _ 23 rfl B 3 (.int .i64 0) 1 8 Try.underlying23 Try.info3 rfl (by decide) _ L.length _ rfl HO.out 1 [.int .i64 f] (reads_one _ _ _) int_one (by unfold maxLen; omega) (by omega) (by simp; omega) ?_; intro a' c' w1 hown' hgrow; have r1 : Fr (onlyFrom [] B) w w1 := ((Fr.refl _ w).alloc _).grown hgrow (fun k hk => .inl (by have := hlt k hk; simp; omega)); have c3 := r1.cell c2 (by simp; omega); have f3 := (r1.frozen (p := ⟨br, 2, none⟩) (by simp; omega) hbr).trans f2)
  have e1 : L.map (fun (n : Nat) => Value.int .i64 n) ++ [.int .i64 f] = (L ++ [f]).map (fun (n : Nat) => Value.int .i64 n) := by simp
  have h2 : RefAt (w1.setCell ⟨br, 2, none⟩ (.slice a' (L.length + 1) c')) scr thr (L ++ [f]) br B sv (.slice a' (L.length + 1) c') := by
    rw [e1] at hown'
    have rs : Fr (only [br]) w1 (w1.setCell ⟨br, 2, none⟩ (.slice a' (L.length + 1) c')) := (Fr.refl _ _).setCell _ _ (.inl (by simp))
    refine ⟨?_, ?_, ?_, h.lt, h.sep⟩
    · have := r1.heap h.blk (by simp; omega)
      rw [heap_setCell this]; rfl
    · refine (h.list.fr r1 ?_).fr rs ?_
      · intro k hk; have := hsep k hk; simp; omega
      · intro k hk; have := hsep k hk; simp; omega
    · rw [List.length_append]
      exact owns_fr hown' rs (fun k hk => by have := hown'.lt k hk; simp; omega)
  have r2 : Fr (onlyFrom [br] B) w (w1.setCell ⟨br, 2, none⟩ (.slice a' (L.length + 1) c')) := (r1.mono (by simp; omega)).setCell _ _ (.inl (by simp))
  clear h f2 c2 HO r1 c3 f3 hown' hgrow e1
  generalize w1.setCell ⟨br, 2, none⟩ (.slice a' (L.length + 1) c') = w2 at h2 r2 ⊢
  have c0 : w2.cell? ⟨br, 0, none⟩ = some sv := cell_of_heap h2.blk rfl
  have c1 : w2.cell? ⟨br, 1, none⟩ = some (.int .i64 thr) := cell_of_heap h2.blk rfl
  have c2 : w2.cell? ⟨br, 2, none⟩ = some (.slice a' (L.length + 1) c') := cell_of_heap h2.blk rfl
  by_cases hlen : L.length < scr.length
  · rcases h2.list with ⟨_, he⟩ | ⟨bs, os, cap, rfl, q1, q2, q3⟩
    · subst he; simp at hlen
    · have q4 := q3 _ hlen
      have HF : Hid (pans scr thr L f = scr[L.length]) := by unfold Hid pans; rw [dif_pos hlen]
      clear q3
      have hlen' : (L.length : Int) + 1 ≤ scr.length := by omega
      have hlen2 : (L.length : Int) < scr.length := by omega
      go_quiet (fail)
      go_wp2
      go_quiet (fail)
      go_wp2
      go_ret
      refine ⟨by rw [HF.out]; rfl, ⟨_, h2.fr ((Fr.refl no _).drewN _ |>.drewN _) (by simp) (by simp)⟩, (r2.drewN _).drewN _⟩
  · have hlen' : (scr.length : Int) ≤ L.length := by omega
    obtain ⟨sa, sc, rfl⟩ := h2.list.reads.shape
    by_cases ht : thr = 0
    · have HF : Hid (pans scr thr L f = false) := by unfold Hid pans; rw [dif_neg hlen]; simp [ht]
      have ht' : decide (0 < (thr : Int)) = false := by simp [ht]
      have ht2 : decide (0 < thr) = false := by simp [ht]
      clear hlen ht
      go_quiet (fail)
      go_wp2_with fail
      go_quiet (fail)
      go_wp2_with fail
      go_ret
      refine ⟨by rw [HF.out]; rfl, ⟨_, h2.fr ((Fr.refl no _).drewN _ |>.drewN _) (by simp) (by simp)⟩, (r2.drewN _).drewN _⟩
    · have HF : Hid (pans scr thr L f = decide (thr ≤ (cntOf f (L ++ [f])))) := by
        unfold Hid pans; rw [dif_neg hlen, cntOf_count, List.count_append]
        simp [ht]
      have ht' : 0 < (thr : Int) := by omega
      have ht2 : 0 < thr := by omega
      clear hlen ht
      go_quiet (fail)
      go_wp2_with fail
      have h3 := h2.fr ((Fr.refl no _).drewN nq) (by simp) (by simp)
      have r3 := r2.drewN nq
      clear h2 r2 c0 c1 c2
      generalize w2.drewN nq = w3 at h3 r3 ⊢
      have c1 : w3.cell? ⟨br, 1, none⟩ = some (.int .i64 thr) := cell_of_heap h3.blk rfl
      go_quiet ((go_at_call 15; exact Calls.quiet_of_same ((refcount_any (h3.fr ((Fr.refl no _).drewN _) (by simp) (by simp)) (by simp; omega) f).mono fun e w' h => ⟨h.1, h.2.symm⟩)))
      go_wp2_with fail
      go_ret
      refine ⟨by rw [HF.out]; rfl, ⟨_, h3.fr ((Fr.refl no _).drewN _) (by simp) (by simp)⟩, r3.drewN _⟩

end Go.Proofs.Ytfiabeibiehlaaa

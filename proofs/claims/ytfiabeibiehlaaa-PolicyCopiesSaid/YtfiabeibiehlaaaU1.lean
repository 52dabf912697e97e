import Derived.Test.YtfiabeibiehlaaaT1
namespace Go.Proofs.Ytfiabeibiehlaaa
open Go.RowKit

attribute [local go_sem] Program.isFuncB Program.isSliceB

theorem PolAt.cntEq {w : World} {s : PS} {b ba bp : Nat} {sv : Value} (h : PolAt w s b ba bp sv) (g : Nat → Nat) (hg : ∀ i, i < 64 → s.cnt i = g i) : PolAt w { s with cnt := g } b ba bp sv :=
  ⟨h.blk, h.scr, h.thr, fun i hi => by have := h.cnt i hi; rw [hg i hi] at this; exact this, h.asked, h.says, h.at_, h.self, h.list, h.apart⟩

set_option maxHeartbeats 1000000 in
theorem copy_any (w : World) (scr : List Bool) (thr : Nat) (L : List Nat) (b ba bp : Nat) (sv : Value) (h : Pol w scr thr L b ba bp sv) (hs : scr.length ≤ 140737488355328) (hL : L.length < 1000000) :
    Calls Try.prog 18 #[.pointer (some ⟨b, 0, none⟩)] w fun e w' => ∃ c ca cp cv, e = .returned (.pointer (some ⟨c, 0, none⟩)) ∧
      Pol w' scr thr L c ca cp cv ∧ Fr no w w' ∧ w.heap.size ≤ c ∧ w.heap.size ≤ ca ∧ w.heap.size ≤ cp ∧ ∀ k, cv.ownBlock = some k → w.heap.size ≤ k ∧ k < w'.heap.size := by
  have H := Lib.hid h
  obtain ⟨n, hp, hn1, hn2⟩ := h
  have c67 := hp.says
  unfold saysOf at c67
  have c0 := hp.scr
  have c1 := hp.thr
  have c66 := hp.asked
  have hcc := hp.cnt
  dsimp only at c0 c1 c66 hcc
  have HCC := Lib.hid hcc
  have HP := Lib.hid hp
  clear hp hn2 hcc
  go_enter Try.func18, Try.ntmps18
  go_wp2_with fail
  refine (none_no b 0 _ _ _ _ c67).mono ?_
  rintro e w' ⟨rfl, rfl⟩
  clear c67
  go_wp2_with fail
  have d0 : w.drew.cell? ⟨b, 0, none⟩ = some sv := c0
  have d1 : w.drew.cell? ⟨b, 1, none⟩ = some (.int .i64 thr) := c1
  refine Lex.region [5, 10] [12] (by kernel_rfl) (by kernel_rfl) ?_
  refine Lex.opens (fun w' => w'.cell? ⟨b, 0, none⟩ = some sv ∧ w'.cell? ⟨b, 1, none⟩ = some (.int .i64 thr)) (⟨d0, d1⟩) ?_
  repeat (first
    | (refine Lex.skips (by rfl) ?_; (try simp only [Act.put, List.setIfInBounds_toArray, List.set_cons_zero, List.set_cons_succ]))
    | (refine Lex.quiet (v := ?_) (by rfl) (by rfl) ?_ ?_; rotate_left; (focus (intro w' hS'; go_simp; try rfl)); (try simp only [Act.put, List.setIfInBounds_toArray, List.set_cons_zero, List.set_cons_succ])))
  refine Lex.loud (by rfl) (by rfl) ?_
  intro K' hK'
  go_simp
  refine (asked_pol (H.out.fr ((Fr.refl no w).drew) (by simp) (by simp) (by simp) (by simp))).mono ?_
  rintro e w' ⟨rfl, rfl⟩
  refine hK' _ _ (⟨d0, d1⟩) ?_
  clear hK'
  try simp only [Act.put, List.setIfInBounds_toArray, List.set_cons_zero, List.set_cons_succ]
  repeat (first
    | (refine Lex.skips (by rfl) ?_; (try simp only [Act.put, List.setIfInBounds_toArray, List.set_cons_zero, List.set_cons_succ]))
    | (refine Lex.quiet (v := ?_) (by rfl) (by rfl) ?_ ?_; rotate_left; (focus (intro w' hS'; go_simp; try rfl)); (try simp only [Act.put, List.setIfInBounds_toArray, List.set_cons_zero, List.set_cons_succ])))
  refine Lex.loud (by rfl) (by rfl) ?_
  intro K' hK'
  go_simp
  refine (made_any _ sv scr (HP.out.list.reads.fr ((Fr.refl no w).drew) (by simp)) hs L.length thr).mono ?_
  rintro e w1 ⟨c, ca, cp, cv, rfl, h1, r1, k1, k2, k3, k4⟩
  have r1 : Fr no w w1 := ((Fr.refl no w).drew).trans r1
  refine hK' _ _ (⟨r1.cell c0 (by simp), r1.cell c1 (by simp)⟩) ?_
  clear hK'
  try simp only [Act.put, List.setIfInBounds_toArray, List.set_cons_zero, List.set_cons_succ]
  repeat (first
    | (refine Lex.skips (by rfl) ?_; (try simp only [Act.put, List.setIfInBounds_toArray, List.set_cons_zero, List.set_cons_succ]))
    | (refine Lex.quiet (v := ?_) (by rfl) (by rfl) ?_ ?_; rotate_left; (focus (intro w' hS'; go_simp; try rfl)); (try simp only [Act.put, List.setIfInBounds_toArray, List.set_cons_zero, List.set_cons_succ])))
  refine Lex.done ?_
  refine Lex.ends ?_
  go_wp2_with fail
  have hbd := (Array.getElem?_eq_some_iff.1 HP.out.blk.choose_spec).1
  have hbad := (Array.getElem?_eq_some_iff.1 HP.out.at_).1
  have e66 : w1.drew.cell? ⟨b, 66, none⟩ = some (.int .i64 L.length) := r1.cell c66 (by simp)
  have h1 : PolAt w1.drew ⟨scr, thr, L.length, 0, fun _ => 0⟩ c ca cp cv := h1.drewN 1
  obtain ⟨cc, hcc⟩ := h1.blk
  refine Lex.region [6, 7] [8] (by kernel_rfl) (by kernel_rfl) ?_
  refine Lex.opens (fun _ => True) (trivial) ?_
  repeat (first
    | (refine Lex.skips (by rfl) ?_; (try simp only [Act.put, List.setIfInBounds_toArray, List.set_cons_zero, List.set_cons_succ]))
    | (refine Lex.quiet (v := ?_) (by rfl) (by rfl) ?_ ?_; rotate_left; (focus (intro w' hS'; go_simp; try rfl)); (try simp only [Act.put, List.setIfInBounds_toArray, List.set_cons_zero, List.set_cons_succ])))
  refine Lex.loud (by rfl) (by rfl) ?_
  intro K' hK'
  go_simp
  refine (load_any b 66 _ _ e66).mono ?_
  rintro e w' ⟨rfl, rfl⟩
  refine hK' _ _ (trivial) ?_
  clear hK'
  try simp only [Act.put, List.setIfInBounds_toArray, List.set_cons_zero, List.set_cons_succ]
  repeat (first
    | (refine Lex.skips (by rfl) ?_; (try simp only [Act.put, List.setIfInBounds_toArray, List.set_cons_zero, List.set_cons_succ]))
    | (refine Lex.quiet (v := ?_) (by rfl) (by rfl) ?_ ?_; rotate_left; (focus (intro w' hS'; go_simp; try rfl)); (try simp only [Act.put, List.setIfInBounds_toArray, List.set_cons_zero, List.set_cons_succ])))
  refine Lex.loud (by rfl) (by rfl) ?_
  intro K' hK'
  go_simp
  refine (store_any c 66 0 L.length _ h1.asked (frozen_of hcc)).mono ?_
  rintro e w2 ⟨rfl, hw2⟩
  have h2 := h1.store_asked L.length L.length rfl
  have r2 : Fr no w (w1.drew.setCell ⟨c, 66, none⟩ (.int .i64 L.length)) := (r1.drew).setCell _ _ (.inr k1)
  have s2 : w1.heap.size ≤ w2.heap.size := by rw [← hw2]; simp
  rw [hw2] at h2 r2
  refine hK' _ _ (trivial) ?_
  clear hK'
  try simp only [Act.put, List.setIfInBounds_toArray, List.set_cons_zero, List.set_cons_succ]
  clear hw2 e66 hcc h1 d0 d1 c0 c1 c66 r1
  repeat (first
    | (refine Lex.skips (by rfl) ?_; (try simp only [Act.put, List.setIfInBounds_toArray, List.set_cons_zero, List.set_cons_succ]))
    | (refine Lex.quiet (v := ?_) (by rfl) (by rfl) ?_ ?_; rotate_left; (focus (intro w' hS'; go_simp; try rfl)); (try simp only [Act.put, List.setIfInBounds_toArray, List.set_cons_zero, List.set_cons_succ])))
  refine Lex.done ?_
  refine Lex.ends ?_
  go_wp2_with fail
  have H2 := Lib.hid h2
  have R2 := Lib.hid r2
  clear h2 r2
  go_loopw [26] (fun i wr => ∃ k : Nat, k ≤ 64 ∧ i = .int .i64 k ∧ PolAt wr ⟨scr, thr, L.length, L.length, fun j => if j < k then L.count j else 0⟩ c ca cp cv ∧ Fr no w wr ∧ w1.heap.size ≤ wr.heap.size) (fun i _ => 64 - (intOf i).toNat)
  case atStart => exact ⟨0, by omega, rfl, H2.out.cntEq _ (fun i _ => by simp), R2.out, s2⟩
  case round =>
    obtain ⟨k, hk, rfl, hp, hr, hz⟩ := hrel
    have HPk := Lib.hid hp
    have HR := Lib.hid hr
    clear hp hr H2 R2
    by_cases hlt : k < 64
    · have hlt' : (k : Int) < 64 := by omega
      have ek : wr.drew.cell? ⟨b, 2 + k, none⟩ = some (.int .i64 (L.count k)) := HR.out.cell (HCC.out k hlt) (by simp)
      have EK := Lib.hid ek
      clear ek
      go_wp2_with fail
      refine Lex.region [10, 11] [12] (by kernel_rfl) (by kernel_rfl) ?_
      refine Lex.opens (fun _ => True) (trivial) ?_
      repeat (first
        | (refine Lex.skips (by rfl) ?_; (try simp only [Act.put, List.setIfInBounds_toArray, List.set_cons_zero, List.set_cons_succ]))
        | (refine Lex.quiet (v := ?_) (by rfl) (by rfl) ?_ ?_; rotate_left; (focus (intro w' hS'; go_simp; try rfl)); (try simp only [Act.put, List.setIfInBounds_toArray, List.set_cons_zero, List.set_cons_succ])))
      refine Lex.loud (by rfl) (by rfl) ?_
      intro K' hK'
      go_simp
      refine (load_any b (2 + k) _ _ EK.out).mono ?_
      rintro e w' ⟨rfl, rfl⟩
      refine hK' _ _ (trivial) ?_
      clear hK'
      try simp only [Act.put, List.setIfInBounds_toArray, List.set_cons_zero, List.set_cons_succ]
      repeat (first
        | (refine Lex.skips (by rfl) ?_; (try simp only [Act.put, List.setIfInBounds_toArray, List.set_cons_zero, List.set_cons_succ]))
        | (refine Lex.quiet (v := ?_) (by rfl) (by rfl) ?_ ?_; rotate_left; (focus (intro w' hS'; go_simp; try rfl)); (try simp only [Act.put, List.setIfInBounds_toArray, List.set_cons_zero, List.set_cons_succ])))
      refine Lex.loud (by rfl) (by rfl) ?_
      intro K' hK'
      go_simp
      have hd : PolAt wr.drew _ c ca cp cv := HPk.out.drewN 1
      obtain ⟨cc, hcc⟩ := hd.blk
      refine (store_any c (2 + k) _ (L.count k) _ (hd.cnt k hlt) (frozen_of hcc)).mono ?_
      rintro e w2 ⟨rfl, hw2⟩
      have h2 := hd.store_cnt k (L.count k) (L.count k) rfl hlt
      have r2 : Fr no w (wr.drew.setCell ⟨c, 2 + k, none⟩ (.int .i64 (L.count k))) := (HR.out.drew).setCell _ _ (.inr k1)
      have s3 : w1.heap.size ≤ w2.heap.size := by rw [← hw2]; simp; omega
      rw [hw2] at h2 r2
      have H2 := Lib.hid h2
      have R2 := Lib.hid r2
      clear h2 r2
      refine hK' _ _ (trivial) ?_
      clear hK'
      try simp only [Act.put, List.setIfInBounds_toArray, List.set_cons_zero, List.set_cons_succ]
      clear hw2 hcc hd
      repeat (first
        | (refine Lex.skips (by rfl) ?_; (try simp only [Act.put, List.setIfInBounds_toArray, List.set_cons_zero, List.set_cons_succ]))
        | (refine Lex.quiet (v := ?_) (by rfl) (by rfl) ?_ ?_; rotate_left; (focus (intro w' hS'; go_simp; try rfl)); (try simp only [Act.put, List.setIfInBounds_toArray, List.set_cons_zero, List.set_cons_succ])))
      refine Lex.done ?_
      refine Lex.ends ?_
      go_wp2_with fail
      go_roundw
      case rel =>
        refine ⟨k + 1, by omega, by go_num, H2.out.cntEq _ (fun i _ => ?_), R2.out, s3⟩
        dsimp only
        by_cases hik : i = k
        · subst hik; simp
        · rw [if_neg hik]
          by_cases h1 : i < k
          · rw [if_pos h1, if_pos (by omega)]
          · rw [if_neg h1, if_neg (by omega)]
      case measure => simp [intOf]; omega
    · obtain rfl : k = 64 := by omega
      go_wp2_with fail
      go_ret
      refine ⟨c, ca, cp, cv, rfl, ⟨L.length, HPk.out.cntEq _ (fun i hi => ?_), Nat.le_refl _, .inl rfl⟩, HR.out, k1, k2, k3, fun k hk => ⟨(k4 k hk).1, by have := (k4 k hk).2; omega⟩⟩
      dsimp only; rw [if_pos hi]

end Go.Proofs.Ytfiabeibiehlaaa

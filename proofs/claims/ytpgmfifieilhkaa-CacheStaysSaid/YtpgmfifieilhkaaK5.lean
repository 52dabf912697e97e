import Derived.Test.YtpgmfifieilhkaaK4
namespace Go.Proofs.Ytpgmfifieilhkaa
open Go.RowKit

attribute [local go_sem] Program.isFuncB Program.isSliceB

variable {w w' w'' : World} {words : Nat} {P P' P'' : List (Nat × List Nat)} {s s' : CS} {r r' : RS}

theorem CSt.room (h : CSt w words P s) : (flat P).length ≤ words := by
  rcases h with h | ⟨_, rfl⟩
  · exact h.ok.room
  · simp [flat]

theorem left_int (h : CSt w words P s) :
    Calls Try.prog 14 #[.pointer (some ⟨s.b, 0, none⟩)] w fun e w' => e = .returned (.int .i64 ((words : Int) - (flat P).length)) ∧ ∃ s', CTo w w' words P s P s' := by
  have hr := h.room
  refine (left_yes h).mono ?_
  rintro e w' ⟨rfl, h'⟩
  exact ⟨by rw [Int.ofNat_sub hr], h'⟩

theorem words_lt (h : POk words P) : ∀ x ∈ flat P, x < 4294967296 := by
  intro x hx
  obtain ⟨y, hy, hxy⟩ := List.mem_flatMap.1 hx
  exact (h.lt y hy).2.2 x hxy

set_option maxRecDepth 100000 in
set_option maxHeartbeats 2000000 in
theorem alike_ok (h : Both w words P s r) (f : Int) (a : Nat) :
    Calls Try.prog 21 #[.pointer (some ⟨s.b, 0, none⟩), .pointer (some ⟨r.b, 0, none⟩), .int .i64 f, .int .u64 a] w fun e w' => e = .returned (.bool true) ∧ ∃ s', CTo w w' words P s P s' ∧ Both w' words P s' r := by
  have H := Lib.hid h
  obtain ⟨ca, cc, hcv⟩ := owns_shape h.f.wds
  have HCV := Lib.hid hcv
  have hlen : (flat P).length ≤ 65536 := Nat.le_trans h.f.ok.room h.f.ok.few
  have hroom := h.f.ok.room
  have hfew := h.f.ok.few
  clear h hcv
  go_enter Try.func21, Try.ntmps21
  go_wp2_with fail
  refine (address_all H.out.c f).mono ?_
  rintro e w1 ⟨⟨a1, b1, hs1, rfl⟩, s1, k1⟩
  have H1 := Lib.hid (H.out.stay k1)
  have K1 := Lib.hid k1
  have HS1 := Lib.hid hs1
  clear hs1 k1
  go_wp2_with fail
  refine (ref_address_all H1.out.f f).mono ?_
  rintro e w' ⟨⟨a2, b2, hs2, rfl⟩, rfl⟩
  obtain ⟨rfl, rfl⟩ := addrSpec_one H.out.f.ok.nd HS1.out hs2
  clear hs2
  go_wp2_with fail
  have C := find_all H1.out.c a
  rw [K1.out.b] at C
  refine C.mono ?_
  clear C
  rintro e w2 ⟨rfl, s2, k2⟩
  have H2 := Lib.hid (H1.out.stay k2)
  have K2 := Lib.hid (K1.out.trans k2)
  clear k2
  generalize hfo : findOf P a = fo at *
  obtain ⟨fo1, fo2⟩ := fo
  have HFO := Lib.hid hfo
  clear hfo
  go_wp2_with fail
  refine (ref_find_all H2.out.f a).mono ?_
  rintro e w' ⟨rfl, rfl⟩
  rw [HFO.out]
  go_wp2_with fail
  have C := code_z H2.out.c
  rw [K2.out.b] at C
  refine C.mono ?_
  clear C
  rintro e w3 ⟨v, rfl, hz, s3, k3, hap⟩
  have H3 := Lib.hid (H2.out.stay k3)
  have K3 := Lib.hid (K2.out.trans k3)
  obtain ⟨va, vc, rfl⟩ := owns_shape hz.owns
  have HVR := Lib.hid (show ∀ k, (Value.slice va (flat P).length vc).ownBlock = some k → ¬ rfoot r k ∧ ¬ foot s3 P k from fun k hk => ⟨fun h => by
    have h1 := (hz.owns.lt k hk).1
    have h2 := H2.out.f.lt k h
    omega, hap k hk⟩)
  have HZ := Lib.hid hz
  clear hz hap k3
  go_wp2_with fail
  have d0 : w3.drew.cell? ⟨r.b, 0, none⟩ = some (.int .i64 words) := cell_of_heap H3.out.f.obj rfl
  have d1 : w3.drew.cell? ⟨r.b, 1, none⟩ = some (.slice ca (flat P).length cc) := by rw [← HCV.out]; exact cell_of_heap (o := 1) H3.out.f.obj rfl
  have H4 : Hid (Both w3.drew words P s3 r) := Lib.hid (H3.out.fr ((Fr.refl no w3).drew) (by simp))
  have Z4 : Hid (ownsZ w3.drew w2.heap.size 52 (.int .u32 0) (.slice va (flat P).length vc) (flat P).length (u32s (flat P))) := Lib.hid (ownsZ_fr HZ.out ((Fr.refl no w3).drew) (by simp))
  have K4 : Hid (CTo w w3.drew words P s P s3) := Lib.hid ⟨K3.out.at_.fr ((Fr.refl no w3).drew) (by simp), K3.out.b, K3.out.ft, K3.out.fr.drew⟩
  have hX : IntKind.i64.wrap ((words : Int) - (flat P).length) = (words : Int) - (flat P).length := by rw [IntKind.wrap_i64]; omega
  refine Lex.region [20, 22, 27, 46] [49] (by kernel_rfl) (by kernel_rfl) ?_
  refine Lex.opens (fun w' => w'.cell? ⟨r.b, 0, none⟩ = some (.int .i64 words) ∧ w'.cell? ⟨r.b, 1, none⟩ = some (.slice ca (flat P).length cc)) (⟨d0, d1⟩) ?_
  repeat (first
    | (refine Lex.skips (by rfl) ?_; (try simp only [Act.put, List.setIfInBounds_toArray, List.set_cons_zero, List.set_cons_succ]))
    | (refine Lex.quiet (v := ?_) (by rfl) (by rfl) ?_ ?_; rotate_left; (focus (intro w' hS'; go_simp; try rfl)); (try simp only [Act.put, List.setIfInBounds_toArray, List.set_cons_zero, List.set_cons_succ])))
  refine Lex.loud (by rfl) (by rfl) ?_
  intro K' hK'
  go_simp
  have C := next_yes H4.out.c
  rw [K4.out.b] at C
  refine C.mono ?_
  clear C
  rintro e w5 ⟨rfl, s5, k5⟩
  have H5 := Lib.hid (H4.out.stay k5)
  have K5 := Lib.hid (K4.out.trans k5)
  have V5 : Hid (∀ k, (Value.slice va (flat P).length vc).ownBlock = some k → ¬ rfoot r k ∧ ¬ foot s5 P k) := Lib.hid fun k hk => ⟨(HVR.out k hk).1, fun h => by
    rcases k5.ft k h with h1 | h1
    · exact (HVR.out k hk).2 h1
    · have := (Z4.out.owns.lt k hk).2; omega⟩
  have Z5 := Lib.hid (ownsZ_fr Z4.out k5.fr (fun k hk => (HVR.out k hk).2))
  have d05 : w5.cell? ⟨r.b, 0, none⟩ = some (.int .i64 words) := cell_of_heap H5.out.f.obj rfl
  have d15 : w5.cell? ⟨r.b, 1, none⟩ = some (.slice ca (flat P).length cc) := by rw [← HCV.out]; exact cell_of_heap (o := 1) H5.out.f.obj rfl
  clear k5 d0 d1
  refine hK' _ _ (⟨d05, d15⟩) ?_
  clear hK'
  try simp only [Act.put, List.setIfInBounds_toArray, List.set_cons_zero, List.set_cons_succ]
  repeat (first
    | (refine Lex.skips (by rfl) ?_; (try simp only [Act.put, List.setIfInBounds_toArray, List.set_cons_zero, List.set_cons_succ]))
    | (refine Lex.quiet (v := ?_) (by rfl) (by rfl) ?_ ?_; rotate_left; (focus (intro w' hS'; go_simp; try rfl)); (try simp only [Act.put, List.setIfInBounds_toArray, List.set_cons_zero, List.set_cons_succ])))
  refine Lex.loud (by rfl) (by rfl) ?_
  intro K' hK'
  go_simp
  refine (ref_next H5.out.f).mono ?_
  rintro e w' ⟨rfl, rfl⟩
  refine hK' _ _ (⟨d05, d15⟩) ?_
  clear hK'
  try simp only [Act.put, List.setIfInBounds_toArray, List.set_cons_zero, List.set_cons_succ]
  repeat (first
    | (refine Lex.skips (by rfl) ?_; (try simp only [Act.put, List.setIfInBounds_toArray, List.set_cons_zero, List.set_cons_succ]))
    | (refine Lex.quiet (v := ?_) (by rfl) (by rfl) ?_ ?_; rotate_left; (focus (intro w' hS'; go_simp; try rfl)); (try simp only [Act.put, List.setIfInBounds_toArray, List.set_cons_zero, List.set_cons_succ])))
  refine Lex.loud (by rfl) (by rfl) ?_
  intro K' hK'
  go_simp
  have C := left_int H5.out.c
  rw [K5.out.b] at C
  refine C.mono ?_
  clear C
  rintro e w6 ⟨rfl, s6, k6⟩
  have H6 := Lib.hid (H5.out.stay k6)
  have K6 := Lib.hid (K5.out.trans k6)
  have V6 : Hid (∀ k, (Value.slice va (flat P).length vc).ownBlock = some k → ¬ rfoot r k ∧ ¬ foot s6 P k) := Lib.hid fun k hk => ⟨(V5.out k hk).1, fun h => by
    rcases k6.ft k h with h1 | h1
    · exact (V5.out k hk).2 h1
    · have := (Z5.out.owns.lt k hk).2; omega⟩
  have Z6 := Lib.hid (ownsZ_fr Z5.out k6.fr (fun k hk => (V5.out k hk).2))
  have d06 : w6.cell? ⟨r.b, 0, none⟩ = some (.int .i64 words) := cell_of_heap H6.out.f.obj rfl
  have d16 : w6.cell? ⟨r.b, 1, none⟩ = some (.slice ca (flat P).length cc) := by rw [← HCV.out]; exact cell_of_heap (o := 1) H6.out.f.obj rfl
  clear k6 d05 d15
  refine hK' _ _ (⟨d06, d16⟩) ?_
  clear hK'
  try simp only [Act.put, List.setIfInBounds_toArray, List.set_cons_zero, List.set_cons_succ]
  repeat (first
    | (refine Lex.skips (by rfl) ?_; (try simp only [Act.put, List.setIfInBounds_toArray, List.set_cons_zero, List.set_cons_succ]))
    | (refine Lex.quiet (v := ?_) (by rfl) (by rfl) ?_ ?_; rotate_left; (focus (intro w' hS'; go_simp; try rfl)); (try simp only [Act.put, List.setIfInBounds_toArray, List.set_cons_zero, List.set_cons_succ])))
  clear hX
  refine Lex.loud (by rfl) (by rfl) ?_
  intro K' hK'
  go_simp
  have hwo : Reads w6 (.slice ca (flat P).length cc) 1 (flat P).length (u32s (flat P)) := HCV.out ▸ owns_reads H6.out.f.wds
  refine (same_words _ _ _ (flat P) (flat P) (owns_reads Z6.out.owns) hwo (by omega)).mono ?_
  rintro e w7 ⟨rfl, q7, hw7⟩
  rw [decide_eq_true rfl]
  have r67 : Fr no w6 w7 := by rw [hw7]; exact (Fr.refl no w6).drewN _
  have H7 := Lib.hid (H6.out.fr r67 (by simp))
  have K7 : Hid (CTo w w7 words P s P s6) := Lib.hid ⟨K6.out.at_.fr r67 (by simp), K6.out.b, K6.out.ft, K6.out.fr.trans (r67.to)⟩
  have Z7 := Lib.hid (ownsZ_fr Z6.out r67 (by simp))
  have d07 := r67.cell d06 (by simp)
  have d17 := r67.cell d16 (by simp)
  clear d06 d16 hw7 hwo r67
  refine hK' _ _ (⟨d07, d17⟩) ?_
  clear hK'
  try simp only [Act.put, List.setIfInBounds_toArray, List.set_cons_zero, List.set_cons_succ]
  repeat (first
    | (refine Lex.skips (by rfl) ?_; (try simp only [Act.put, List.setIfInBounds_toArray, List.set_cons_zero, List.set_cons_succ]))
    | (refine Lex.quiet (v := ?_) (by rfl) (by rfl) ?_ ?_; rotate_left; (focus (intro w' hS'; go_simp; try rfl)); (try simp only [Act.put, List.setIfInBounds_toArray, List.set_cons_zero, List.set_cons_succ])))
  refine Lex.done ?_
  refine Lex.ends ?_
  clear d07 d17
  go_wp2_with fail
  refine (over_words Z7.out (words_lt H7.out.f.ok)).mono ?_
  rintro e w8 ⟨rfl, r78⟩
  have H8 := Lib.hid (H7.out.fr r78 (fun k hk h => by
    rcases hk with hk | hk
    · exact (V6.out k h).2 hk
    · exact (V6.out k h).1 hk))
  have K8 : Hid (CTo w w8 words P s P s6) := Lib.hid ⟨K7.out.at_.fr r78 (fun k hk h => (V6.out k h).2 hk), K7.out.b, K7.out.ft, by
    refine K7.out.fr.trans' r78 fun k hk _ => ?_
    have h1 := (Z4.out.owns.lt k hk).1
    have h2 := K2.out.fr.size
    omega⟩
  clear r78
  go_wp2_with fail
  have H9 : Hid (Both w8.drew words P s6 r) := Lib.hid (H8.out.fr ((Fr.refl no w8).drew) (by simp))
  have K9 : Hid (CTo w w8.drew words P s P s6) := Lib.hid ⟨K8.out.at_.fr ((Fr.refl no w8).drew) (by simp), K8.out.b, K8.out.ft, K8.out.fr.drew⟩
  have d1 : w8.drew.cell? ⟨r.b, 1, none⟩ = some (.slice ca (flat P).length cc) := by rw [← HCV.out]; exact cell_of_heap (o := 1) H9.out.f.obj rfl
  refine Lex.region [3, 8] [11] (by kernel_rfl) (by kernel_rfl) ?_
  refine Lex.opens (fun w' => w'.cell? ⟨r.b, 1, none⟩ = some (.slice ca (flat P).length cc)) (d1) ?_
  repeat (first
    | (refine Lex.skips (by rfl) ?_; (try simp only [Act.put, List.setIfInBounds_toArray, List.set_cons_zero, List.set_cons_succ]))
    | (refine Lex.quiet (v := ?_) (by rfl) (by rfl) ?_ ?_; rotate_left; (focus (intro w' hS'; go_simp; try rfl)); (try simp only [Act.put, List.setIfInBounds_toArray, List.set_cons_zero, List.set_cons_succ])))
  refine Lex.loud (by rfl) (by rfl) ?_
  intro K' hK'
  go_simp
  have C := code_z H9.out.c
  rw [K9.out.b] at C
  refine C.mono ?_
  clear C
  rintro e wa ⟨v, rfl, hz, sa, ka, hap⟩
  have Ha := Lib.hid (H9.out.stay ka)
  have Ka := Lib.hid (K9.out.trans ka)
  obtain ⟨xa, xc, rfl⟩ := owns_shape hz.owns
  have HZa := Lib.hid hz
  clear hz hap ka
  have da : wa.cell? ⟨r.b, 1, none⟩ = some (.slice ca (flat P).length cc) := by rw [← HCV.out]; exact cell_of_heap (o := 1) Ha.out.f.obj rfl
  refine hK' _ _ (da) ?_
  clear hK'
  try simp only [Act.put, List.setIfInBounds_toArray, List.set_cons_zero, List.set_cons_succ]
  clear d1
  repeat (first
    | (refine Lex.skips (by rfl) ?_; (try simp only [Act.put, List.setIfInBounds_toArray, List.set_cons_zero, List.set_cons_succ]))
    | (refine Lex.quiet (v := ?_) (by rfl) (by rfl) ?_ ?_; rotate_left; (focus (intro w' hS'; go_simp; try rfl)); (try simp only [Act.put, List.setIfInBounds_toArray, List.set_cons_zero, List.set_cons_succ])))
  refine Lex.loud (by rfl) (by rfl) ?_
  intro K' hK'
  go_simp
  have hwo : Reads wa (.slice ca (flat P).length cc) 1 (flat P).length (u32s (flat P)) := HCV.out ▸ owns_reads Ha.out.f.wds
  refine (same_words _ _ _ (flat P) (flat P) (owns_reads HZa.out.owns) hwo (by omega)).mono ?_
  rintro e wb ⟨rfl, qb, hwb⟩
  rw [decide_eq_true rfl]
  have rab : Fr no wa wb := by rw [hwb]; exact (Fr.refl no wa).drewN _
  have Hb := Lib.hid (Ha.out.fr rab (by simp))
  have Kb : Hid (CTo w wb words P s P sa) := Lib.hid ⟨Ka.out.at_.fr rab (by simp), Ka.out.b, Ka.out.ft, Ka.out.fr.trans (rab.to)⟩
  have db := rab.cell da (by simp)
  clear da hwb hwo rab
  refine hK' _ _ (db) ?_
  clear hK'
  try simp only [Act.put, List.setIfInBounds_toArray, List.set_cons_zero, List.set_cons_succ]
  repeat (first
    | (refine Lex.skips (by rfl) ?_; (try simp only [Act.put, List.setIfInBounds_toArray, List.set_cons_zero, List.set_cons_succ]))
    | (refine Lex.quiet (v := ?_) (by rfl) (by rfl) ?_ ?_; rotate_left; (focus (intro w' hS'; go_simp; try rfl)); (try simp only [Act.put, List.setIfInBounds_toArray, List.set_cons_zero, List.set_cons_succ])))
  refine Lex.done ?_
  refine Lex.ends ?_
  go_wp2_with fail
  go_ret
  exact ⟨rfl, sa, Kb.out, Hb.out⟩

end Go.Proofs.Ytpgmfifieilhkaa

import Derived.Test.YtdklbmggljakkaaD17
set_option linter.unusedSimpArgs false
set_option linter.unusedVariables false
set_option linter.unusedSectionVars false
set_option linter.unnecessarySimpa false
namespace Go.Proofs.Ytdklbmggljakkaa
open Go.RowKit

attribute [local go_sem] Program.isFuncB Program.isSliceB

variable {w w' w'' w0 : World}


set_option maxHeartbeats 1000000 in
theorem copybytes_big (w : World) (v : Value) (bs : List Nat) (hb : Reads w v 1 bs.length (u8s bs)) (hl : bs.length ≤ 140737488351232) :
    Calls Try.prog 37 #[v] w fun e w' => ∃ x, e = .returned x ∧ w'.ownsRow w.heap.size 5 1 x bs.length (u8s bs) ∧ Fr no w w' := by
  obtain ⟨va, vc, rfl⟩ := hb.shape
  have r0 := (Fr.refl no w).alloc (.cells #[] 5)
  have HO := Lib.hid (owns_new w 5 1)
  have HB := Lib.hid (hb.fr r0 (by simp))
  have R0 := Lib.hid r0
  clear hb r0
  go_enter Try.func37, Try.ntmps37
  go_wp2_with (at_builtin; (refine wpList_append_at rfl (.tmp 3) _ 22 rfl w.heap.size 5 (.int .u8 0) 1 1 Try.underlying22 Try.infoU8 rfl (by decide) _ 0 _ rfl HO.out bs.length _ HB.out (u8s_one _) (by unfold maxLen; omega) (by omega) (by simp only [World.size_alloc]; omega) ?_); intro ga gc w6 ho hg hb)
  have R6 := R0.out.trans' ((Fr.refl (fun k => (Value.slice (some ⟨w.heap.size, 0, none⟩) 0 0).ownBlock = some k) _).grown hg (fun k hk => .inl hk)) (fun k hk _ => by simp [Value.ownBlock] at hk; omega)
  have HO6 : Hid (w6.ownsRow w.heap.size 5 1 (.slice ga bs.length gc) bs.length (u8s bs)) := Lib.hid (by simpa using ho)
  clear ho hg hb
  go_ret
  exact ⟨_, rfl, HO6.out, R6⟩

set_option maxHeartbeats 1000000 in
theorem lentbytes_big (w : World) (v : Value) (bs : List Nat) (hb : Reads w v 1 bs.length (u8s bs)) (hl : bs.length ≤ 140737488351232) :
    Calls Try.prog 9 #[v] w fun e w' => ∃ x, e = .returned x ∧ Lent w' w.heap.size x bs ∧ Fr no w w' := by
  obtain ⟨va, vc, rfl⟩ := hb.shape
  have HC := Lib.hid (copybytes_big w _ bs hb hl)
  clear hb
  go_enter Try.func9, Try.ntmps9
  go_wp2_with fail
  refine HC.out.mono ?_
  rintro e w1 ⟨x, rfl, hx, r1⟩
  obtain ⟨xa, xc, rfl⟩ := owns_shape hx
  have r2 := (Fr.refl no w1).alloc (.cells #[.int .u8 77, .int .u8 201, .int .u8 5] 5)
  have HX := Lib.hid (owns_fr hx r2 (by simp))
  have R2 := Lib.hid (r1.trans r2)
  have HN := Lib.hid (owns_reads (owns_row w1 [.int .u8 77, .int .u8 201, .int .u8 5] 5 (by simp)))
  clear hx r1 r2
  go_upto_region 2 with (at_builtin; (refine wpList_append_at rfl (.tmp 5) _ 22 rfl w.heap.size 5 (.int .u8 0) 1 1 Try.underlying22 Try.infoU8 rfl (by decide) _ bs.length _ rfl HX.out 3 _ HN.out (by intro u hu; simp at hu; rcases hu with rfl | rfl | rfl <;> rfl) (by unfold maxLen; omega) (by omega) R2.out.size ?_); intro ga gc w6 ho hg hb)
  have R6 := Lib.hid (R2.out.trans' ((Fr.refl (fun k => (Value.slice xa bs.length xc).ownBlock = some k) _).grown hg (fun k hk => .inl hk)) (fun k hk _ => (HX.out.lt k hk).1))
  rcases ho.2 with ⟨h0, h1⟩ | ⟨g, cap, cur, he, hbg, hh, h2, h3, h4, h5⟩
  · omega
  cases he
  have HL : Hid (Lent w6 w.heap.size (.slice (some ⟨g, 0, none⟩) bs.length (bs.length + 3)) bs) := Lib.hid ⟨g, bs.length + 3, rfl, hbg, rfl, cur, hh, by rw [Nat.mul_one] at h5; rw [h5]; simp [u8s], by omega, by omega⟩
  have hcap : bs.length + 3 ≤ gc := h2
  have hcap' : (bs.length : Int) + 3 ≤ gc := by omega
  clear ho hg hb hbg hh h2 h3 h4 h5
  go_wp2_with fail
  go_ret
  exact ⟨_, rfl, HL.out, R6.out⟩

set_option maxHeartbeats 1000000 in
theorem clone_bytes_big (w : World) (v : Value) (bs : List Nat) (hb : Reads w v 1 bs.length (u8s bs)) (hl : bs.length ≤ 140737488351232) :
    Calls Try.prog 38 #[v] w fun e w' => ∃ x, e = .returned x ∧ w'.ownsRow w.heap.size 5 1 x bs.length (u8s bs) ∧ Fr no w w' := by
  rcases hb with ⟨rfl, h0, -⟩ | ⟨ad, cap, rfl, h2, h3, h4, h5⟩
  · have : bs = [] := List.length_eq_zero_iff.1 h0
    subst this
    go_enter Try.func38, Try.ntmps38
    go_wp2_with fail
    go_ret
    exact ⟨_, rfl, World.ownsRow_nil _ _ _ _, Fr.refl _ _⟩
  · have hb : Reads w (.slice (some ad) bs.length cap) 1 bs.length (u8s bs) := .inr ⟨ad, cap, rfl, h2, h3, h4, h5⟩
    have r0 := (Fr.refl no w).alloc (.cells #[] 5)
    have HO := Lib.hid (owns_new w 5 1)
    have HB := Lib.hid (hb.fr r0 (by simp))
    have R0 := Lib.hid r0
    clear hb r0 h2 h3 h4 h5
    go_enter Try.func38, Try.ntmps38
    go_wp2_with (at_builtin; (refine wpList_append_at rfl (.tmp 5) _ 22 rfl w.heap.size 5 (.int .u8 0) 1 1 Try.underlying22 Try.infoU8 rfl (by decide) _ 0 _ rfl HO.out bs.length _ HB.out (u8s_one _) (by unfold maxLen; omega) (by omega) (by simp only [World.size_alloc]; omega) ?_); intro ga gc w6 ho hg hb)
    have R6 := R0.out.trans' ((Fr.refl (fun k => (Value.slice (some ⟨w.heap.size, 0, none⟩) 0 0).ownBlock = some k) _).grown hg (fun k hk => .inl hk)) (fun k hk _ => by simp [Value.ownBlock] at hk; omega)
    have HO6 : Hid (w6.ownsRow w.heap.size 5 1 (.slice ga bs.length gc) bs.length (u8s bs)) := Lib.hid (by simpa using ho)
    clear ho hg hb
    go_ret
    exact ⟨_, rfl, HO6.out, R6⟩

set_option maxHeartbeats 1000000 in
theorem new_big (w : World) (v : Value) (bs : List Nat) (hb : Reads w v 1 bs.length (u8s bs)) (hk : ∀ x ∈ bs, x < 256) (hl : bs.length ≤ 140737488351232) :
    Calls Try.prog 10 #[v] w fun e w' => ∃ t iv, e = .returned (.pointer (some ⟨t, 0, none⟩)) ∧ TapeAt w' w.heap.size t bs 0 [] iv (.slice none 0 0) ∧ Fr no w w' := by
  have HC := Lib.hid (clone_bytes_big w v bs hb hl)
  obtain ⟨va, vc, rfl⟩ := hb.shape
  clear hb
  go_enter Try.func10, Try.ntmps10
  go_wp2_with fail
  refine HC.out.mono ?_
  rintro e w1 ⟨x, rfl, hx, r1⟩
  obtain ⟨xa, xc, rfl⟩ := owns_shape hx
  have r2 := (Fr.refl no w1).alloc (.cells #[.bool true, .slice xa bs.length xc, .int .i64 0, .slice none 0 0] 45)
  have HT : Hid (TapeAt (w1.alloc (.cells #[.bool true, .slice xa bs.length xc, .int .i64 0, .slice none 0 0] 45)) w.heap.size w1.heap.size bs 0 [] (.slice xa bs.length xc) (.slice none 0 0)) :=
    Lib.hid ⟨heap_new w1 _, owns_fr hx r2 (by simp), World.ownsRow_nil _ _ _ _, Nat.zero_le _, r1.size, hk⟩
  have R2 := Lib.hid (r1.trans r2)
  clear hx r1 r2
  go_wp2_with fail
  go_ret
  exact ⟨_, _, rfl, HT.out, R2.out⟩

/-! ### two tapes side by side -/
structure Duo (w : World) (B t r : Nat) (inp : List Nat) (a1 : Nat) (l1 : List Dd) (a2 : Nat) (l2 : List Dd) (iv lv jv mv : Value) : Prop where
  tape : TapeAt w B t inp a1 l1 iv lv
  ref : RefAt w B r inp a2 l2 jv mv
  ap : ∀ k, lv.ownBlock = some k → mv.ownBlock ≠ some k
section
variable {B t r a1 a2 a' : Nat} {inp : List Nat} {l1 l2 l' : List Dd} {iv lv jv mv lv' : Value}
theorem Duo.fr (h : Duo w B t r inp a1 l1 a2 l2 iv lv jv mv) (q : Fr no w w') : Duo w' B t r inp a1 l1 a2 l2 iv lv jv mv := ⟨h.tape.fr q, h.ref.fr q, h.ap⟩
theorem Duo.tr (h : Duo w B t r inp a1 l1 a2 l2 iv lv jv mv) : t ≠ r := fun e => by
  have h1 := h.tape.obj
  rw [e, h.ref.obj] at h1
  simp at h1
theorem Duo.goT (h : Duo w B t r inp a1 l1 a2 l2 iv lv jv mv) (hT : TapeAt w' B t inp a' l' iv lv') (q : Fr (TapeS t lv) w w') (n : NewRow w lv lv') : Duo w' B t r inp a' l' a2 l2 iv lv' jv mv := by
  refine ⟨hT, h.ref.frx q ?_ ?_ ?_, ?_⟩
  · rintro (e | e)
    · exact h.tr e.symm
    · exact row_block_ne h.tape.out h.ref.obj (by decide) e
  · intro k hk hs
    have h1 := h.ref.old k hk
    have h2 := h.tape.new k hs
    omega
  · rintro k hk (e | e)
    · subst e; exact row_block_ne h.ref.out h.tape.obj (by decide) hk
    · exact h.ap k e hk
  · intro k hk hm
    rcases n k hk with h1 | h1
    · exact h.ap k h1 hm
    · have := (h.ref.out.lt k hm).2; omega
theorem Duo.goR (h : Duo w B t r inp a1 l1 a2 l2 iv lv jv mv) (hR : RefAt w' B r inp a' l' jv lv') (q : Fr (TapeS r mv) w w') (n : NewRow w mv lv') : Duo w' B t r inp a1 l1 a' l' iv lv jv lv' := by
  refine ⟨h.tape.frx q ?_ ?_ ?_, hR, ?_⟩
  · rintro (e | e)
    · exact h.tr e
    · exact row_block_ne h.ref.out h.tape.obj (by decide) e
  · rintro k hk (e | e)
    · subst e; exact row_block_ne h.tape.inn h.ref.obj (by decide) hk
    · exact rows_ne h.ref.out h.tape.inn (by decide) k e hk
  · rintro k hk (e | e)
    · subst e; exact row_block_ne h.tape.out h.ref.obj (by decide) hk
    · exact h.ap k hk e
  · intro k hk hm
    rcases n k hm with h1 | h1
    · exact h.ap k hk h1
    · have := (h.tape.out.lt k hk).2; omega
theorem Duo.lent {S : Nat → Prop} (h : Duo w B t r inp a1 l1 a2 l2 iv lv jv mv) (q : Fr S w w') (hS : ∀ k, S k → k < B ∧ ∀ j, jv.ownBlock = some j → j < k) : Duo w' B t r inp a1 l1 a2 l2 iv lv jv mv := by
  refine ⟨h.tape.frx q ?_ ?_ ?_, h.ref.frx q ?_ ?_ ?_, h.ap⟩
  · intro e; have := (hS _ e).1; have := h.tape.bt; omega
  · intro k hk e; have := (hS _ e).1; have := (h.tape.inn.lt k hk).1; omega
  · intro k hk e; have := (hS _ e).1; have := (h.tape.out.lt k hk).1; omega
  · intro e; have := (hS _ e).1; have := h.ref.bt; omega
  · intro k hk e; have := (hS _ e).2 k hk; omega
  · intro k hk e; have := (hS _ e).1; have := (h.ref.out.lt k hk).1; omega
theorem Duo.room (h : Duo w B t r inp a1 l1 a2 l2 iv lv jv mv) : B ≤ w.heap.size := by
  have h1 := (Array.getElem?_eq_some_iff.1 h.tape.obj).1
  have := h.tape.bt
  omega
end

end Go.Proofs.Ytdklbmggljakkaa

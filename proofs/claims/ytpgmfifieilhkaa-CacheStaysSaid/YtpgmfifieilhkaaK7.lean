import Derived.Test.YtpgmfifieilhkaaK6
namespace Go.Proofs.Ytpgmfifieilhkaa
open Go.RowKit

attribute [local go_sem] Program.isFuncB Program.isSliceB

variable {w w' w'' : World} {words : Nat} {P P' P'' : List (Nat × List Nat)} {s s' : CS} {r r' : RS}

theorem reads_build1 (w : World) (cs : Array Value) (n : Nat) (hs : cs.size = n) (hn : n ≤ maxLen) (e : TypeId) : Reads (w.alloc (.cells cs e)) (.slice (some ⟨w.heap.size, 0, none⟩) n n) 1 n cs.toList := by
  refine .inr ⟨_, n, rfl, Nat.le_refl _, hn, by simp [hs], fun j u hu => ?_⟩
  rw [Addr.add_lit]
  refine cell_of_heap (heap_new w _) ?_
  simpa using hu

theorem CSt.at_new {w : World} {o : Obj} (h : CSt w words P s) : CSt (w.alloc o) words P s := h.fr ((Fr.refl no w).alloc o) (by simp)
theorem CTo.of_alloc {w w' : World} {o : Obj} (h : CTo (w.alloc o) w' words P s P' s') : CTo w w' words P s P' s' :=
  ⟨h.at_, h.b, fun k hk => (h.ft k hk).imp id (fun h => by simp at h; omega), by
    have := ((Fr.refl (foot s P) w).alloc o).trans h.fr
    exact this⟩

theorem puts_lit (h : CSt w words P s) {b n : Nat} (hb : s.b = b) (f : Int) (want : Nat) (er : Int) (ws : List Nat) (vs : Array Value) (hvs : vs = (u32s ws).toArray) (hn : ws.length = n) (hlt : ∀ n ∈ ws, n < 4294967296) (h1 : ws.length ≤ 1000000)
    {po : Nat × Int × List (Nat × List Nat)} (hpo : putOf words P f ws = po) :
    Calls Try.prog 23 #[.pointer (some ⟨b, 0, none⟩), .int .i64 f, .int .u64 want, .int .i64 er, .slice (some ⟨w.heap.size, 0, none⟩) n n] (w.alloc (.cells vs 52)) fun e w' => e = .returned (.bool ((po.1 : Int) == want && po.2.1 == er)) ∧ ∃ s', CTo w w' words P s po.2.2 s' := by
  subst hb hn hvs hpo
  refine (puts_all h.at_new f want er _ _ ws ?_ hlt h1 ?_).mono ?_
  · have := reads_build1 w (u32s ws).toArray ws.length (by simp [u32s]) (by unfold maxLen; omega) 52
    simpa using this
  · intro _ k hk hf
    have := h.lt k hf
    cases hk
    simp at this
  · rintro e w' ⟨rfl, s', h'⟩
    exact ⟨rfl, s', h'.of_alloc⟩

set_option maxHeartbeats 2000000 in
theorem awake_ok (w : World) : Calls Try.prog 8 #[] w fun e w' => e = .returned (.bool true) ∧ Fr no w w' := by
  go_enter Try.func8, Try.ntmps8
  go_wp2_with fail
  refine (new_yes w 3 (by omega)).mono ?_
  rintro e w1 ⟨s, rfl, h1, r1, n1⟩
  have H1 := Lib.hid h1
  have R1 := Lib.hid r1
  have N1 := Lib.hid n1
  clear h1 r1 n1
  go_wp2_with fail
  refine (puts_lit H1.out rfl 5 4294967296 0 [7, 8] _ (by rfl) rfl (by simp) (by simp) (po := (4294967296, 0, [(5, [7, 8])])) (by decide)).mono ?_
  rintro e w2 ⟨rfl, s2, h2⟩
  have H2 := Lib.hid h2
  clear h2
  simp only [beq_self_eq_true, Bool.and_self]
  go_wp2_with fail
  refine (puts_lit (.inl H2.out.at_) H2.out.b 6 0 8 [9, 9] _ (by rfl) rfl (by simp) (by simp) (po := (0, 8, [(5, [7, 8])])) (by decide)).mono ?_
  rintro e w3 ⟨rfl, s3, h3⟩
  have H3 := Lib.hid (H2.out.trans h3)
  clear h3
  simp only [beq_self_eq_true, Bool.and_self]
  go_wp2_with fail
  refine (puts_lit (.inl H3.out.at_) H3.out.b 6 4294967304 0 [9] _ (by rfl) rfl (by simp) (by simp) (po := (4294967304, 0, [(5, [7, 8]), (6, [9])])) (by decide)).mono ?_
  rintro e w4 ⟨rfl, s4, h4⟩
  have H4 := Lib.hid (H3.out.trans h4)
  clear h4
  simp only [beq_self_eq_true, Bool.and_self]
  go_wp2_with fail
  have C := left_yes (.inl H4.out.at_)
  rw [H4.out.b] at C
  refine C.mono ?_
  clear C
  rintro e w5 ⟨rfl, s5, h5⟩
  have H5 := Lib.hid (H4.out.trans h5)
  clear h5
  rw [show ((3 - (flat [(5, [7, 8]), (6, [9])]).length : Nat) : Int) = 0 from by decide]
  go_wp2_with fail
  have C := code_z (.inl H5.out.at_)
  rw [H5.out.b] at C
  refine C.mono ?_
  clear C
  rintro e w6 ⟨v, rfl, hz, s6, h6, -⟩
  obtain ⟨xa, xc, rfl⟩ := owns_shape hz.owns
  have H6 := Lib.hid (H5.out.trans h6)
  have HZ := Lib.hid (owns_reads (hz.owns.alloc (.cells #[.int .u32 7, .int .u32 8, .int .u32 9] 52)))
  clear h6 hz
  go_wp2_with fail
  refine (same_words _ _ _ (flat [(5, [7, 8]), (6, [9])]) [7, 8, 9] HZ.out ?_ (by decide)).mono ?_
  · exact reads_build1 w6 #[.int .u32 7, .int .u32 8, .int .u32 9] 3 rfl (by unfold maxLen; omega) 52
  rintro e w7 ⟨rfl, q, hw⟩
  rw [decide_eq_true (by rfl)]
  have HW := Lib.hid hw
  clear hw
  go_wp2_with fail
  go_ret
  refine ⟨rfl, ?_⟩
  rw [HW.out]
  have r2 := (H6.out.fr.alloc (.cells #[.int .u32 7, .int .u32 8, .int .u32 9] 52)).drewN q
  exact R1.out.trans' r2 (fun k hk _ => N1.out k hk)

end Go.Proofs.Ytpgmfifieilhkaa

import Derived.Test.YtihnkijeefkefaaGreatQ25
set_option linter.unusedSimpArgs false
set_option linter.unusedVariables false
set_option linter.unusedSectionVars false
set_option linter.unnecessarySimpa false
set_option maxRecDepth 100000
/- A space of the caller's own; the chapter's space. -/
namespace Go.Proofs.YtihnkijeefkefaaGreat
open Go.RowKit

attribute [local go_sem] Program.isFuncB Program.isSliceB

variable {w w' w'' w0 : World} {p : Nat} {s s' : Zp}

section
variable {O R : Nat → Prop} {z : Pz} {aa : Option Addr} {ac : Nat} {ar : List Int} {f res back : Int}
theorem scall_ok (w : World) (h : SpAt w O R p s z) (hal : ar.length ≤ 1000000) (hv : Reads w (.slice aa ar.length ac) 1 ar.length (ints ar)) : Calls Tryz.prog 18 #[.pointer (some ⟨p, 0, none⟩), .int .i64 f, .slice aa ar.length ac, .int .i64 res, .int .i64 back] w fun e w' => e = .returned (.int .i64 (s.callS f ar res back).2) ∧ SpTo w w' O R p (s.callS f ar res back).1 := by
  by_cases he : s.e.1 = 0
  case neg => rw [callS_9 he]; exact scall_9 w h he
  cases hf : s.badF f ar.length
  case true => rw [callS_2 he hf]; exact scall_2 w h he hf
  cases hr : s.badR ar res back
  case true => rw [callS_5 he hf hr]; exact scall_5 w h he hf hr hal hv
  cases hl : s.full f
  · rw [callS_0 he hf hr hl]; exact scall_0 w h he hf hr hl hv
  · rw [callS_f he hf hr hl]; exact scall_f w h he hf hr hl hv
end
def Own15 (w0 w : World) (p : Nat) (s : Zp) : Prop := ∃ O R z, SpAt w O R p s z ∧ (∀ k, O k → w0.heap.size ≤ k) ∧ Fr no w0 w
theorem own_to {O R : Nat → Prop} {z : Pz} (h : SpAt w O R p s z) (hO : ∀ k, O k → w0.heap.size ≤ k) (r0 : Fr no w0 w) (k : SpTo w w' O R p s') : Own15 w0 w' p s' := by
  obtain ⟨O', z', h', r, -, h2⟩ := k
  exact ⟨O', R, z', h', fun i hi => (h2 i hi).elim (hO i) (fun h => Nat.le_trans r0.size h), r0.trans' r (fun i hi _ => hO i hi)⟩
theorem Own15.fr (h : Own15 w0 w p s) (r : Fr no w w') : Own15 w0 w' p s := by
  obtain ⟨O, R, z, h, hO, r0⟩ := h
  exact ⟨O, R, z, h.fr r, hO, r0.trans r⟩
theorem Own15.frame (h : Own15 w0 w p s) : Fr no w0 w := by
  obtain ⟨O, R, z, h, hO, r0⟩ := h
  exact r0
theorem Own15.before {w1 : World} (h : Own15 w1 w p s) (r : Fr no w0 w1) : Own15 w0 w p s := by
  obtain ⟨O, R, z, h, hO, r0⟩ := h
  exact ⟨O, R, z, h, fun k hk => Nat.le_trans r.size (hO k hk), r.trans r0⟩
theorem NewAt.own {O R : Nat → Prop} {z : Pz} (h : NewAt w w' p s O R z) : Own15 w w' p s := ⟨O, R, z, h.1, h.2.1, h.2.2.2⟩
theorem o_func (w : World) (h : Own15 w0 w p s) : Calls Tryz.prog 28 #[.pointer (some ⟨p, 0, none⟩)] w fun e w' => e = .returned (.int .i64 s.f) ∧ w = w' := by
  obtain ⟨O, R, z, h, hO, r0⟩ := h
  refine (sfunc_ok w h).mono ?_
  rintro e w' ⟨rfl, rfl⟩
  exact ⟨rfl, rfl⟩
theorem o_place (w : World) (h : Own15 w0 w p s) : Calls Tryz.prog 32 #[.pointer (some ⟨p, 0, none⟩)] w fun e w' => e = .returned (.int .i64 s.pc) ∧ w = w' := by
  obtain ⟨O, R, z, h, hO, r0⟩ := h
  refine (splace2_ok w h).mono ?_
  rintro e w' ⟨rfl, rfl⟩
  exact ⟨rfl, rfl⟩
theorem o_at (w : World) (h : Own15 w0 w p s) : Calls Tryz.prog 29 #[.pointer (some ⟨p, 0, none⟩)] w fun e w' => e = .returned (.int .u64 s.at_) ∧ w = w' := by
  obtain ⟨O, R, z, h, hO, r0⟩ := h
  refine (sat_ok w h).mono ?_
  rintro e w' ⟨rfl, rfl⟩
  exact ⟨rfl, rfl⟩
theorem o_depth (w : World) (h : Own15 w0 w p s) : Calls Tryz.prog 17 #[.pointer (some ⟨p, 0, none⟩)] w fun e w' => e = .returned (.int .i64 s.ls.length) ∧ w = w' := by
  obtain ⟨O, R, z, h, hO, r0⟩ := h
  refine (sdepth_ok w h).mono ?_
  rintro e w' ⟨rfl, rfl⟩
  exact ⟨rfl, rfl⟩
theorem o_get (w : World) (r : Int) (h : Own15 w0 w p s) : Calls Tryz.prog 21 #[.pointer (some ⟨p, 0, none⟩), .int .i64 r] w fun e w' => e = .returned (.tuple #[.int .u64 (s.getS r).1, .int .i64 (s.getS r).2]) ∧ Own15 w0 w' p s := by
  obtain ⟨O, R, z, h, hO, r0⟩ := h
  refine (sget_ok w r h).mono ?_
  rintro e w' ⟨rfl, r⟩
  exact ⟨rfl, O, R, z, h.fr r, hO, r0.trans r⟩
theorem o_set (w : World) (r : Int) (v : Nat) (hv : v < 18446744073709551616) (h : Own15 w0 w p s) : Calls Tryz.prog 25 #[.pointer (some ⟨p, 0, none⟩), .int .i64 r, .int .u64 v] w fun e w' => e = .returned (.int .i64 (s.setS r v).2) ∧ Own15 w0 w' p (s.setS r v).1 := by
  obtain ⟨O, R, z, h, hO, r0⟩ := h
  refine (sset_ok w r v hv h).mono ?_
  rintro e w' ⟨rfl, h', r⟩
  exact ⟨rfl, own_to h hO r0 (h'.to r)⟩
theorem o_call (w : World) {aa : Option Addr} {ac : Nat} {ar : List Int} {f res back : Int} (hal : ar.length ≤ 1000000) (hv : Reads w (.slice aa ar.length ac) 1 ar.length (ints ar)) (h : Own15 w0 w p s) : Calls Tryz.prog 18 #[.pointer (some ⟨p, 0, none⟩), .int .i64 f, .slice aa ar.length ac, .int .i64 res, .int .i64 back] w fun e w' => e = .returned (.int .i64 (s.callS f ar res back).2) ∧ Own15 w0 w' p (s.callS f ar res back).1 := by
  obtain ⟨O, R, z, h, hO, r0⟩ := h
  refine (scall_ok w h hal hv).mono ?_
  rintro e w' ⟨rfl, k⟩
  exact ⟨rfl, own_to h hO r0 k⟩
theorem o_ret (w : World) (v : Nat) (hv : v < 18446744073709551616) (h : Own15 w0 w p s) : Calls Tryz.prog 20 #[.pointer (some ⟨p, 0, none⟩), .int .u64 v] w fun e w' => e = .returned (.int .i64 (s.retS v).2) ∧ Own15 w0 w' p (s.retS v).1 := by
  obtain ⟨O, R, z, h, hO, r0⟩ := h
  refine (sreturn_ok w v hv h).mono ?_
  rintro e w' ⟨rfl, k⟩
  exact ⟨rfl, own_to h hO r0 k⟩
/-! ### the chapter's module -/
def nopI : Ix := ⟨0, 0, 0, 0, 0, []⟩
def twoM : Mx := ⟨[9], [⟨0, 2, 0, [nopI]⟩, ⟨1, 3, 5, [nopI]⟩]⟩
theorem two_ck : modCk twoM = 0 := by kernel_rfl
theorem two_small : twoM.Small := ⟨by decide, by decide, fun f hf => by
  simp [twoM] at hf
  rcases hf with rfl | rfl <;> exact ⟨by decide, fun i hi => by simp at hi; subst hi; decide⟩, fun b hb => by simp [twoM] at hb; omega⟩
theorem reads_block {b n z : Nat} {cs : Array Value} {t : TypeId} (h : w.heap[b]? = some (.cells cs t (0, 0))) (hn : n ≤ maxLen) (hc : cs.size = n * z) : Reads w (.slice (some ⟨b, 0, none⟩) n n) z n cs.toList :=
  .inr ⟨_, n, rfl, Nat.le_refl _, hn, by simpa using hc, fun j u hj => by rw [Addr.add_lit, Nat.zero_add]; exact cell_of_heap h (by simpa using hj)⟩
def nopC : Array Value := #[.int .i64 0, .int .i64 0, .int .i64 0, .int .i64 0, .int .i64 0, .slice none 0 0]
def twoC (b : Nat) : Array Value := #[.int .i64 0, .int .i64 2, .int .i64 0, .slice (some ⟨b, 0, none⟩) 1 1, .int .i64 1, .int .i64 3, .int .i64 5, .slice (some ⟨b, 0, none⟩) 1 1]
theorem two_rd {b d f : Nat} {t1 t2 t3 : TypeId} (h1 : w.heap[b]? = some (.cells nopC t1 (0, 0))) (h2 : w.heap[d]? = some (.cells #[.int .u8 9] t2 (0, 0))) (h3 : w.heap[f]? = some (.cells (twoC b) t3 (0, 0))) : ModRd w twoM (some ⟨d, 0, none⟩) 1 (some ⟨f, 0, none⟩) 2 := by
  have hc : ∀ p : FxV, p.2 = (some ⟨b, 0, none⟩, 1) → p.1.c = [nopI] → CodeRd w p.val p.1.c := by
    rintro ⟨g, x⟩ h h'
    simp only at h h'
    subst h
    unfold FxV.val
    simp only [h']
    refine ⟨[(nopI, .slice none 0 0)], rfl, reads_block (n := 1) (z := 6) h1 (by decide) rfl, fun p hp => ?_⟩
    simp only [List.mem_singleton] at hp
    subst hp
    exact .inl ⟨rfl, rfl, rfl⟩
  refine ⟨reads_block (n := 1) (z := 1) h2 (by decide) rfl, [(⟨0, 2, 0, [nopI]⟩, some ⟨b, 0, none⟩, 1), (⟨1, 3, 5, [nopI]⟩, some ⟨b, 0, none⟩, 1)], rfl, reads_block (n := 2) (z := 4) h3 (by decide) rfl, fun p hp => ?_⟩
  simp only [List.mem_cons, List.not_mem_nil, or_false] at hp
  rcases hp with rfl | rfl
  · exact hc _ rfl rfl
  · exact hc _ rfl rfl
set_option maxHeartbeats 1000000 in
theorem two15_ok (w : World) : Calls Tryz.prog 24 #[] w fun e w' => ∃ da fa, e = .returned (.agg #[.slice da 1 1, .slice fa 2 2]) ∧ ModRd w' twoM da 1 fa 2 ∧ Fr no w w' := by
  go_enter Tryz.func24, Tryz.ntmps24
  go_wp2_with fail
  have q1 := (Fr.refl no w).alloc (.cells #[.slice (some ⟨w.heap.size + 1 + 1, 0, none⟩) 1 1, .slice (some ⟨w.heap.size + 1 + 1 + 1, 0, none⟩) 2 2] 25)
  have b1 := heap_new w (.cells #[.slice (some ⟨w.heap.size + 1 + 1, 0, none⟩) 1 1, .slice (some ⟨w.heap.size + 1 + 1 + 1, 0, none⟩) 2 2] 25)
  have s1 : (w.alloc (.cells #[.slice (some ⟨w.heap.size + 1 + 1, 0, none⟩) 1 1, .slice (some ⟨w.heap.size + 1 + 1 + 1, 0, none⟩) 2 2] 25)).heap.size = w.heap.size + 1 := by simp
  generalize w.alloc (.cells #[.slice (some ⟨w.heap.size + 1 + 1, 0, none⟩) 1 1, .slice (some ⟨w.heap.size + 1 + 1 + 1, 0, none⟩) 2 2] 25) = w1 at *
  have q2 := (Fr.refl no w1).alloc (.cells nopC 112)
  have b2 := heap_new w1 (.cells nopC 112)
  have s2 : (w1.alloc (.cells nopC 112)).heap.size = w.heap.size + 1 + 1 := by simp [s1]
  rw [s1] at b2
  unfold nopC at q2 b2 s2
  generalize w1.alloc (.cells #[.int .i64 0, .int .i64 0, .int .i64 0, .int .i64 0, .int .i64 0, .slice none 0 0] 112) = w2 at *
  have q3 := (Fr.refl no w2).alloc (.cells #[.int .u8 9] 5)
  have b3 := heap_new w2 (.cells #[.int .u8 9] 5)
  have s3 : (w2.alloc (.cells #[.int .u8 9] 5)).heap.size = w.heap.size + 1 + 1 + 1 := by simp [s2]
  rw [s2] at b3
  generalize w2.alloc (.cells #[.int .u8 9] 5) = w3 at *
  have q4 := (Fr.refl no w3).alloc (.cells (twoC (w.heap.size + 1)) 41)
  have b4 := heap_new w3 (.cells (twoC (w.heap.size + 1)) 41)
  rw [s3] at b4
  unfold twoC at q4 b4
  generalize w3.alloc (.cells #[.int .i64 0, .int .i64 2, .int .i64 0, .slice (some ⟨w.heap.size + 1, 0, none⟩) 1 1, .int .i64 1, .int .i64 3, .int .i64 5, .slice (some ⟨w.heap.size + 1, 0, none⟩) 1 1] 41) = w4 at *
  have B1 := q4.heap (q3.heap (q2.heap b1 (by simp)) (by simp)) (by simp)
  refine bodyPost_ret (results_one rfl rfl (load_mod _ w.heap.size _ _ B1)) rfl ?_
  exact ⟨_, _, rfl, two_rd (q4.heap (q3.heap b2 (by simp)) (by simp)) (q4.heap b3 (by simp)) b4, q1.trans (q2.trans (q3.trans q4))⟩
theorem smade_law (w : World) (n : Nat) (fuel : Int) (hb : ¬ newBad twoM n fuel) (hfl : flr twoM ≤ n) : Calls Tryz.prog 23 #[.int .i64 n, .int .i64 fuel] w fun e w' => ∃ p, e = .returned (.pointer (some ⟨p, 0, none⟩)) ∧ Own15 w w' p (newS twoM n [] fuel) := by
  have HB := Lib.hid hb
  have HF : Hid (flr twoM ≤ ((n : Int))) := Lib.hid (by omega)
  clear hb hfl
  go_enter Tryz.func23, Tryz.ntmps23
  go_wp2_with fail
  refine (two15_ok _).mono ?_
  rintro e w1 ⟨da, fa, rfl, hm, r1⟩
  have HM := Lib.hid hm
  have R1 := Lib.hid r1
  clear hm r1
  go_wp2_with fail
  refine (snew_ok (inp := []) w1 HM.out two_small (.inl ⟨rfl, rfl, rfl⟩) (by decide) (fun x hx => by cases hx) HB.out HF.out).mono ?_
  rintro e w2 ⟨p, O, R, z, rfl, hn⟩
  have HN : Hid (Own15 w w2 p (newS twoM n [] fuel)) := Lib.hid (hn.own.before R1.out)
  clear hn
  go_wp2_with fail
  go_ret
  exact ⟨_, rfl, HN.out⟩
theorem shas_law (w : World) (r : Int) (v : Nat) (h : Own15 w0 w p s) : Calls Tryz.prog 34 #[.pointer (some ⟨p, 0, none⟩), .int .i64 r, .int .u64 v] w fun e w' => e = .returned (.bool (decide (s.getS r = (v, 0)))) ∧ Own15 w0 w' p s := by
  have HG := Lib.hid (o_get w r h)
  generalize hg : s.getS r = g at *
  obtain ⟨x, y⟩ := g
  have HD : Hid (decide ((x, y) = (v, (0 : Int))) = (decide (y = 0) && decide (((x : Nat) : Int) = v))) := Lib.hid (by
    by_cases h1 : x = v
    · by_cases h2 : y = 0
      · simp [h1, h2]
      · simp [h1, h2]
    · have : ¬ ((x : Nat) : Int) = v := by omega
      simp [h1, this])
  clear hg h
  by_cases hy : y = 0
  · subst hy
    go_enter Tryz.func34, Tryz.ntmps34
    go_wp2_with fail
    refine HG.out.mono ?_
    rintro e w1 ⟨rfl, h1⟩
    have H1 := Lib.hid h1
    clear h1
    go_wp2_with fail
    go_ret
    exact ⟨by rw [HD.out]; simp; rfl, H1.out⟩
  · have hyb : (y == 0) = false := beq_eq_false_iff_ne.2 hy
    go_enter Tryz.func34, Tryz.ntmps34
    go_wp2_with fail
    refine HG.out.mono ?_
    rintro e w1 ⟨rfl, h1⟩
    have H1 := Lib.hid h1
    clear h1
    go_wp2_with fail
    go_ret
    exact ⟨by rw [HD.out]; simp [hy], H1.out⟩
/-! ### the chapter's space -/
def tS0 : Zp := newS twoM 128 [] 10
def tS1 : Zp := (tS0.setS 0 7).1
def tS2 : Zp := (tS1.callS 1 [0] 1 4).1
def tS3 : Zp := (tS2.retS 5).1
theorem tS0_at : tS0.at_ = 112 := by kernel_rfl
theorem tS0_ls : tS0.ls.length = 0 := by kernel_rfl
theorem tS0_set : (tS0.setS 0 7).2 = 0 := by kernel_rfl
theorem tS1_call : (tS1.callS 1 [0] 1 4).2 = 0 := by kernel_rfl
theorem tS2_at : tS2.at_ = 80 := by kernel_rfl
theorem tS2_f : tS2.f = 1 := by kernel_rfl
theorem tS2_get : tS2.getS 0 = (7, 0) := by kernel_rfl
theorem tS2_ls : tS2.ls.length = 1 := by kernel_rfl
theorem tS2_load : unle ((tS2.b.drop 16).take 1) = 9 := by kernel_rfl
theorem tS2_b : inB tS2.b.length 16 1 = true := by kernel_rfl
theorem tS2_ret : (tS2.retS 5).2 = 0 := by kernel_rfl
theorem tS3_f : tS3.f = 0 := by kernel_rfl
theorem tS3_pc : tS3.pc = 4 := by kernel_rfl
theorem tS3_get : tS3.getS 1 = (5, 0) := by kernel_rfl
theorem tS3_at : tS3.at_ = 112 := by kernel_rfl
set_option maxHeartbeats 2000000 in
theorem called_ok (w : World) : Calls Tryz.prog 19 #[] w fun e w' => ∃ p, e = .returned (.pointer (some ⟨p, 0, none⟩)) ∧ Own15 w w' p tS2 := by
  have HMK := Lib.hid (smade_law w 128 10 (by unfold newBad; rw [two_ck]; omega) (by decide))
  go_enter Tryz.func19, Tryz.ntmps19
  go_wp2_with fail
  refine HMK.out.mono ?_
  rintro e w1 ⟨p, rfl, h1⟩
  have H1 : Hid (Own15 w w1 p tS0) := Lib.hid h1
  clear h1
  go_wp2_with fail
  refine (o_at w1 H1.out).mono ?_
  rintro e w' ⟨rfl, rfl⟩
  rw [tS0_at]
  go_wp2_with fail
  refine (o_depth w1 H1.out).mono ?_
  rintro e w' ⟨rfl, rfl⟩
  rw [tS0_ls]
  go_wp2_with fail
  refine (o_set w1 0 7 (by decide) H1.out).mono ?_
  rintro e w2 ⟨rfl, h2⟩
  have H2 : Hid (Own15 w w2 p tS1) := Lib.hid h2
  rw [tS0_set]
  clear h2
  go_wp2_with fail
  have r3 := (Fr.refl no w2).alloc (.cells #[.int .i64 0] 3)
  have H3 := Lib.hid (H2.out.fr r3)
  have HR3 : Hid (Reads (w2.alloc (.cells #[.int .i64 0] 3)) (.slice (some ⟨w2.heap.size, 0, none⟩) ([0] : List Int).length 1) 1 ([0] : List Int).length (ints [0])) := Lib.hid (reads_block (n := 1) (z := 1) (heap_new w2 (.cells #[.int .i64 0] 3)) (by decide) rfl)
  clear r3
  generalize w2.alloc (.cells #[.int .i64 0] 3) = w3 at *
  refine (o_call w3 (ar := [0]) (f := 1) (res := 1) (back := 4) (by decide) HR3.out H3.out).mono ?_
  rintro e w4 ⟨rfl, h4⟩
  have H4 : Hid (Own15 w w4 p tS2) := Lib.hid h4
  rw [tS1_call]
  clear h4
  go_wp2_with fail
  go_ret
  exact ⟨_, rfl, H4.out⟩
theorem pair_true {x y : Nat × Int} (h : x = y) : decide (x = y) = true := decide_eq_true h
set_option maxHeartbeats 4000000 in
theorem awake15_ok (w : World) : Calls Tryz.prog 10 #[] w fun e w' => e = .returned (.bool true) ∧ Fr no w w' := by
  go_enter Tryz.func10, Tryz.ntmps10
  go_wp2_with fail
  refine (called_ok w).mono ?_
  rintro e w1 ⟨p, rfl, h1⟩
  have H1 := Lib.hid h1
  clear h1
  go_wp2_with fail
  refine (o_at w1 H1.out).mono ?_
  rintro e w' ⟨rfl, rfl⟩
  rw [tS2_at]
  go_wp2_with fail
  refine (o_func w1 H1.out).mono ?_
  rintro e w' ⟨rfl, rfl⟩
  rw [tS2_f]
  go_wp2_with fail
  refine (shas_law w1 0 7 H1.out).mono ?_
  rintro e w2 ⟨rfl, h2⟩
  rw [pair_true tS2_get]
  have H2 := Lib.hid h2
  clear h2
  go_wp2_with fail
  refine (o_depth w2 H2.out).mono ?_
  rintro e w' ⟨rfl, rfl⟩
  rw [tS2_ls]
  go_wp2_with fail
  obtain ⟨O, R, z, hs, hO, r0⟩ := H2.out
  have HSP := Lib.hid hs
  have HO := Lib.hid hO
  have HR0 := Lib.hid r0
  clear hs hO r0
  refine (smemory_ok w2 HSP.out).mono ?_
  rintro e w' ⟨rfl, rfl⟩
  go_wp2_with fail
  refine (load_in w2 16 1 HSP.out.mem (by decide) (.inl rfl) HSP.out.ok.bl tS2_b).mono ?_
  rintro e w3 ⟨rfl, r3⟩
  rw [tS2_load]
  have H3 : Hid (Own15 w w3 p tS2) := Lib.hid ⟨O, R, z, HSP.out.fr r3, HO.out, HR0.out.trans r3⟩
  clear r3
  go_wp2_with fail
  refine (o_ret w3 5 (by decide) H3.out).mono ?_
  rintro e w4 ⟨rfl, h4⟩
  rw [tS2_ret]
  have H4 : Hid (Own15 w w4 p tS3) := Lib.hid h4
  clear h4
  go_wp2_with fail
  refine (o_func w4 H4.out).mono ?_
  rintro e w' ⟨rfl, rfl⟩
  rw [tS3_f]
  go_wp2_with fail
  refine (o_place w4 H4.out).mono ?_
  rintro e w' ⟨rfl, rfl⟩
  rw [tS3_pc]
  go_wp2_with fail
  refine (shas_law w4 1 5 H4.out).mono ?_
  rintro e w5 ⟨rfl, h5⟩
  rw [pair_true tS3_get]
  have H5 := Lib.hid h5
  clear h5
  go_wp2_with fail
  refine (o_at w5 H5.out).mono ?_
  rintro e w' ⟨rfl, rfl⟩
  rw [tS3_at]
  go_wp2_with fail
  go_ret
  exact ⟨rfl, H5.out.frame⟩

end Go.Proofs.YtihnkijeefkefaaGreat

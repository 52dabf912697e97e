/- ModuleGets. -/
import Derived.Test.YtdngflhfhmnipaaGreatN5
import Derived.Test.YtdngflhfhmnipaaGreatN10
set_option linter.unusedSimpArgs false
set_option linter.unusedVariables false
set_option linter.unusedSectionVars false
set_option linter.unnecessarySimpa false
namespace Go.Proofs.YtdngflhfhmnipaaGreat
open Go.RowKit

attribute [local go_sem] Program.isFuncB Program.isSliceB

variable {w w' w'' w0 : World}

theorem getM_small (bs : List Nat) (hb : bs.length ≤ 1000) (hlt : ∀ b ∈ bs, b < 256) : (getM bs).1.Small := by
  unfold getM
  split
  · exact ⟨Nat.zero_le _, Nat.zero_le _, fun f hf => (by cases hf), fun b hb => (by cases hb)⟩
  · exact getMx_small bs hb hlt
theorem Lent.oldf {base : Nat} {v : Value} {bs : List Nat} (h : Lent w base v bs) : (∀ k, v.ownBlock = some k → k < w.heap.size) ∧ ∃ b o c, v = .slice (some ⟨b, o, none⟩) bs.length c := by
  obtain ⟨g, c, rfl, h2, rfl, cur, h4, h5, h6, h7⟩ := h.row
  refine ⟨fun k hk => ?_, g, 0, _, rfl⟩
  simp [Value.ownBlock] at hk
  subst hk
  exact (Array.getElem?_eq_some_iff.1 h4).1

set_option maxRecDepth 100000 in
set_option maxHeartbeats 16000000 in
theorem gets_mod (w : World) (bv : Value) (bs : List Nat) (hb : Reads w bv 1 bs.length (u8s bs)) (hform : (bv = .slice none 0 0 ∧ bs = []) ∨ ∃ b o c, bv = .slice (some ⟨b, o, none⟩) bs.length c) (hlt : ∀ b ∈ bs, b < 256) (hl : bs.length ≤ maxLen) (hold : ∀ k, bv.ownBlock = some k → k < w.heap.size) :
    Calls Tryz.prog 4 #[bv] w fun e w' => e = .returned (.bool true) ∧ Fr no w w' := by
  obtain ⟨ba, bc, rfl⟩ := hb.shape
  unfold maxLen at hl
  have HB := Lib.hid hb
  have HFO := Lib.hid hform
  have HLT := Lib.hid hlt
  have HOL := Lib.hid hold
  clear hb hform hlt hold
  go_enter Tryz.func4, Tryz.ntmps4
  by_cases h9 : 900 < bs.length
  · have h9' : (900 : Int) < bs.length := by omega
    go_wp2_with fail
    refine (awake_ok w).mono ?_
    rintro e w1 ⟨rfl, r1⟩
    have R1 := Lib.hid r1
    clear r1
    go_wp2_with fail
    go_ret
    exact ⟨rfl, R1.out⟩
  have h9' : ¬ (900 : Int) < bs.length := by omega
  have SMX := Lib.hid (getMx_small bs (by omega) HLT.out)
  have SM := Lib.hid (getM_small bs (by omega) HLT.out)
  go_wp2_with fail
  refine (lentbytes_ok w _ bs HB.out (by omega)).mono ?_
  rintro e w1 ⟨lv, rfl, hL, r1⟩
  have R1 := Lib.hid r1
  have HL := Lib.hid hL
  obtain ⟨lo, lb, lof, lc, rfl⟩ := hL.oldf
  have LO := Lib.hid lo
  clear hL r1 lo
  have GX := Lib.hid (modget_ok w1 _ bs HL.out.reads.1 (.inr ⟨lb, lof, lc, rfl⟩) HLT.out (by omega) SMX.out LO.out)
  have RX := Lib.hid (fun w3 (r : Fr no w w3) => refget_mod w3 _ bs (HB.out.fr r (by simp)) HFO.out HLT.out (by omega) (fun k hk => Nat.lt_of_lt_of_le (HOL.out k hk) r.size))
  generalize getM bs = gm at *
  obtain ⟨m, er, fl⟩ := gm
  dsimp only at GX RX SM
  clear SMX LO HFO HOL
  go_wp2_with fail
  refine GX.out.mono ?_
  rintro e w2 ⟨da, dc, fa, fc, rfl, hm, ho, hn, r2⟩
  have r3 := ((Fr.refl no w2).alloc (.cells #[.slice da m.d.length dc, .slice fa m.f.length fc] 25)).alloc (.cells #[.int .i64 er, .int .i64 fl] 38)
  have X3 := Lib.hid (heap_keep (heap_new w2 (.cells #[.slice da m.d.length dc, .slice fa m.f.length fc] 25)) (.cells #[.int .i64 er, .int .i64 fl] 38))
  have Y3 := Lib.hid (heap_new2' w2 (.cells #[.slice da m.d.length dc, .slice fa m.f.length fc] 25) (.cells #[.int .i64 er, .int .i64 fl] 38))
  have M3 := Lib.hid (hm.fr r3)
  have O3 := Lib.hid (owns_fr ho r3 (by simp))
  have N3 := Lib.hid (hn.fr r3 (fun g hg => (ho.lt g hg).2))
  have R3 := Lib.hid (r2.trans r3)
  have RX3 := Lib.hid (RX.out _ (R1.out.trans R3.out))
  clear hm ho hn r2 r3 GX RX
  go_wp2_with fail
  refine RX3.out.mono ?_
  rintro e w4 ⟨db, dd, fb, fd, rfl, hm, r4⟩
  have q5 := ((Fr.refl no w4).alloc (.cells #[.slice db m.d.length dd, .slice fb m.f.length fd] 25)).alloc (.cells #[.int .i64 er, .int .i64 fl] 38)
  have r5 := r4.trans q5
  have X5 := Lib.hid (r5.heap X3.out (by simp))
  have Y5 := Lib.hid (r5.heap Y3.out (by simp))
  have U5 := Lib.hid (heap_keep (heap_new w4 (.cells #[.slice db m.d.length dd, .slice fb m.f.length fd] 25)) (.cells #[.int .i64 er, .int .i64 fl] 38))
  have V5 := Lib.hid (heap_new2' w4 (.cells #[.slice db m.d.length dd, .slice fb m.f.length fd] 25) (.cells #[.int .i64 er, .int .i64 fl] 38))
  have K1 := kitsame_ok _ m m da fa db fb dc fc dd fd (M3.out.fr r5) (hm.fr q5) SM.out SM.out
  rw [decide_eq_true rfl] at K1
  have K1H := Lib.hid K1
  have R5 := Lib.hid (R3.out.trans r5)
  have O5 := Lib.hid (owns_fr O3.out r5 (by simp))
  have N5 := Lib.hid (N3.out.fr r5 (fun g hg => (O3.out.lt g hg).2))
  clear hm r4 q5 r5 K1 M3 O3 N3 R3 X3 Y3 RX3
  obtain ⟨a0, a1⟩ := cells2 X5.out
  obtain ⟨u0, u1⟩ := cells2 U5.out
  go_wp2_with fail
  refine K1H.out.mono ?_
  rintro e w6 ⟨rfl, r⟩
  have X6 := Lib.hid (r.heap X5.out (by simp))
  have Y6 := Lib.hid (r.heap Y5.out (by simp))
  have V6 := Lib.hid (r.heap V5.out (by simp))
  have OB := Lib.hid (overbytes_ok w6 w1.heap.size _ _ _ (owns_fr O5.out r (by simp)) (N5.out.fr r (fun g hg => (O5.out.lt g hg).2)))
  have R6 := Lib.hid (R5.out.trans r)
  have OL := Lib.hid (fun k hk => (O5.out.lt k hk).1)
  clear r K1H a0 a1 u0 u1 X5 Y5 U5 V5 O5 N5 R5
  obtain ⟨a0, a1⟩ := cells2 X6.out
  obtain ⟨y0, y1⟩ := cells2 Y6.out
  obtain ⟨v0, v1⟩ := cells2 V6.out
  go_wp2_with fail
  refine OB.out.mono ?_
  rintro e w7 ⟨rfl, r⟩
  have R7 := Lib.hid (R6.out.trans' r (fun k hk _ => OL.out k hk))
  have KB := Lib.hid (keptbytes_ok w7 _ _ _ bs (HL.out.fr R7.out) (HB.out.fr (R1.out.trans R7.out) (by simp)) HLT.out (by omega))
  clear r OB R6 OL a0 a1 y0 y1 v0 v1 X6 Y6 V6
  go_wp2_with fail
  refine KB.out.mono ?_
  rintro e w8 ⟨rfl, r⟩
  have R8 := Lib.hid (R7.out.trans r)
  clear r KB R7
  go_wp2_with fail
  refine (awake_ok _).mono ?_
  rintro e w9 ⟨rfl, r⟩
  have RE := Lib.hid (R1.out.trans (R8.out.trans r))
  clear r
  go_wp2_with fail
  go_ret
  exact ⟨rfl, RE.out⟩

theorem gets_mod_rd (w : World) (v : Value) {n : Nat} {d : Dt} (h : Rd Tryz.prog w n 22 [v] d) (hold : ∀ k, v.ownBlock = some k → k < w.heap.size) (hform : v = .slice none 0 0 ∨ ∃ b o n c, v = .slice (some ⟨b, o, none⟩) n c) :
    Calls Tryz.prog 4 #[v] w fun e w' => e = .returned (.bool true) ∧ Fr no w w' := by
  obtain ⟨bs, hb, hlt, hl⟩ := bytes_of h
  refine gets_mod w v bs hb ?_ hlt hl hold
  rcases hform with rfl | ⟨b, o, n, c, rfl⟩
  · refine .inl ⟨rfl, ?_⟩
    obtain ⟨a, c, hs⟩ := hb.shape
    have : bs.length = 0 := by injection hs with h5 h6 h7; exact h6.symm
    exact List.length_eq_zero_iff.1 this
  · obtain ⟨a, c', hs⟩ := hb.shape
    injection hs with h5 h6 h7
    exact .inr ⟨b, o, c, by rw [h6]⟩

/-- a slice that was handed in points at no spot inside a cell -/
theorem arg_form {P : Program} {W : World} {base : Nat} {t e : TypeId} {v : Value} (ht : P.underlying t = some (.slice e)) (hk : Value.okWide P W .any base t v) : v = .slice none 0 0 ∨ ∃ b o n c, v = .slice (some ⟨b, o, none⟩) n c := by
  obtain ⟨a, len, cap, rfl⟩ := WideShapes.okWide_slice ht hk
  have h := hk
  simp only [Value.okWide, ht, Cell.okWide] at h
  rcases a with _ | ⟨b, o, s⟩
  · simp only [Cell.ok, ht] at h
    split at h
    all_goals simp_all
  · simp only [Cell.ok, ht] at h
    obtain ⟨-, -, -, hs, -⟩ := h
    dsimp only at hs
    exact .inr ⟨b, o, len, cap, by rw [hs]⟩

end Go.Proofs.YtdngflhfhmnipaaGreat

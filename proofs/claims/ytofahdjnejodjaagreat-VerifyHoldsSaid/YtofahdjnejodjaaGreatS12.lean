/- The ways of a code, and what is written on them. -/
import Derived.Test.YtofahdjnejodjaaGreatS11
set_option linter.unusedSimpArgs false
set_option linter.unusedVariables false
set_option linter.unusedSectionVars false
set_option linter.unnecessarySimpa false
namespace Go.Proofs.YtofahdjnejodjaaGreat
open Go.RowKit Go.Flow Go.Sure

attribute [local go_sem] Program.isFuncB Program.isSliceB

variable {w w' w'' w0 : World}

set_option maxRecDepth 100000 in
set_option maxHeartbeats 4000000 in
/-- are they more than are gone through? -/
theorem long11_ok (w : World) (sa : Option Addr) (c : Nat) (is : List Ix) (hin : CodeIn w sa is) (hlen : is.length ≤ maxLen) (hargs : ∀ i ∈ is, i.l.length ≤ maxLen) :
    Calls Tryz.prog 9 #[.slice sa is.length c] w (LongR w 60 is) := by
  have HIN := Lib.hid hin
  have HAR := Lib.hid hargs
  have hl2 : is.length ≤ 9223372036854775807 := by unfold maxLen at hlen; exact hlen
  clear hin hargs hlen
  go_enter Tryz.func9, Tryz.ntmps9
  go_wp2_with fail
  go_loopw [3] (fun y wr => ∃ k : Nat, k ≤ is.length ∧ y = .int .i64 k ∧ Hid (∀ i ∈ is.take k, i.l.length ≤ 20) ∧ Hid (Fr no w wr)) (fun y _ => (is.length - intOf y).toNat)
  case atStart => exact ⟨0, by omega, rfl, Lib.hid (by simp), Lib.hid (Fr.refl _ _)⟩
  case round =>
    obtain ⟨k, hk, rfl, hpre, hfr⟩ := hrel
    by_cases hks : k < is.length
    · have hks' : (k : Int) < is.length := by omega
      obtain ⟨b, of, u, rfl, hi⟩ := HIN.out.fr hfr.out k hks
      obtain ⟨ua, uc, rfl⟩ := hi.args.shape
      have c5 := hi.six.2.2.2.2.2
      have hal := HAR.out is[k] (List.getElem_mem _)
      unfold maxLen at hal
      have HN : Hid (is[k].l.length ≤ 20 → ∀ i ∈ is.take (k + 1), i.l.length ≤ 20) := Lib.hid (fun h i hi => by
        rw [List.take_succ_eq_append_getElem hks, List.mem_append, List.mem_singleton] at hi
        rcases hi with hi | rfl
        · exact hpre.out i hi
        · exact h)
      generalize is[k].l.length = al at *
      clear hi
      by_cases h20 : al ≤ 20
      · have h20' : ¬ (20 : Int) < al := by omega
        have HN2 := Lib.hid (HN.out h20)
        go_wp2_with fail
        go_roundw
        case rel => exact ⟨k + 1, by omega, by go_num, HN2, hfr⟩
        case measure => first | (simp [intOf]; done) | (simp [intOf]; omega)
      · have h20' : (20 : Int) < al := by omega
        go_wp2_with fail
        go_ret
        exact ⟨true, rfl, fun h => (by cases h), hfr.out⟩
    · obtain rfl : k = is.length := by omega
      have HP : Hid (∀ i ∈ is, i.l.length ≤ 20) := Lib.hid (by have := hpre.out; rwa [List.take_length] at this)
      by_cases h3 : is.length ≤ 60
      · have h3' : ¬ (60 : Int) < is.length := by omega
        go_wp2_with fail
        go_ret
        exact ⟨false, rfl, fun _ => ⟨h3, HP.out⟩, hfr.out⟩
      · have h3' : (60 : Int) < is.length := by omega
        go_wp2_with fail
        go_ret
        exact ⟨true, rfl, fun h => (by cases h), hfr.out⟩

/-- Pick, told -/
def pkN (t : Int) (n : Nat) : Nat := (t.tmod n % n).toNat
theorem pkN_lt (t : Int) (n : Nat) (hn : 1 ≤ n) : pkN t n < n := by
  have h2 : (n : Int) ≠ 0 := by omega
  have g1 := Int.emod_nonneg (t.tmod n) h2
  have g2 := Int.emod_lt_of_pos (t.tmod n) (b := (n : Int)) (by omega)
  unfold pkN
  omega
set_option maxHeartbeats 1000000 in
theorem pick_det (w : World) (t : Int) (n : Nat) (hn : 1 ≤ n) (hx : n ≤ 1000000) :
    Calls Tryz.prog 28 #[.int .i64 t, .int .i64 n] w fun e w' => e = .returned (.int .i64 (pkN t n)) ∧ w = w' := by
  have h1 : ¬ ((n : Int) < 1) := by omega
  have h2 : (n : Int) ≠ 0 := by omega
  have b1 := Int.tmod_lt_of_pos t (b := (n : Int)) (by omega)
  have b2 : -(n : Int) < t.tmod n := by
    have := Int.lt_tmod_of_pos t (b := (n : Int)) (by omega)
    omega
  have b3 : 0 ≤ (t.tmod n + n).tmod n := Int.tmod_nonneg _ (by omega)
  have b4 : (t.tmod n + n).tmod n < n := Int.tmod_lt_of_pos _ (by omega)
  go_enter Tryz.func28, Tryz.ntmps28
  go_wp2_with fail
  go_ret
  have g1 := Int.emod_nonneg (t.tmod n) h2
  refine ⟨?_, rfl⟩
  unfold pkN
  rw [Int.toNat_of_nonneg g1]; rfl

/-! ### plainly -/
theorem bit_of (a : Nat) (i : Nat) (hi : i < 64) : (BitVec.ofInt 64 (a : Int)).getLsbD i = a.testBit i := by
  rw [BitVec.ofInt_natCast, BitVec.getLsbD_ofNat]
  simp [hi]
theorem andnot_zero (a b : Nat) (h : ∀ r, r < 64 → b.testBit r = false → a.testBit r = false) : Go.bits .andNot .u64 (a : Int) (b : Int) = 0 := by
  have hz : (BitVec.ofInt 64 (a : Int) &&& ~~~BitVec.ofInt 64 (b : Int)) = 0#64 := by
    apply BitVec.eq_of_getLsbD_eq
    intro i hi
    rw [BitVec.getLsbD_and, BitVec.getLsbD_not, bit_of a i hi, bit_of b i hi, BitVec.getLsbD_zero]
    cases hb : b.testBit i
    · simp [h i hi hb]
    · simp
  show IntKind.u64.wrap ((BitVec.ofInt 64 (a : Int) &&& ~~~BitVec.ofInt 64 (b : Int)).toNat : Int) = _
  rw [hz]
  rfl
/-- on a way: where one stands, and what has been written -/
structure Walked (n p : Nat) (nx : Nat → List Nat) (wr : Nat → Int) (k mk : Nat) : Prop where
  lt : k < n
  le : mk ≤ (18446744073709551615 : Nat)
  bit : ∀ r, r < 64 → mk.testBit r = false → p ≤ r ∧ Flow.Reach (gr nx wr r) k
theorem Walked.start {n p : Nat} {nx : Nat → List Nat} {wr : Nat → Int} (hn : 0 < n) (hp : 2 ^ p - 1 ≤ (18446744073709551615 : Nat)) : Walked n p nx wr 0 (2 ^ p - 1) :=
  ⟨hn, hp, fun r _ h => by
    rw [Nat.testBit_two_pow_sub_one] at h
    simp at h
    exact ⟨h, Flow.Reach.zero⟩⟩
theorem Walked.goes {n p : Nat} {nx : Nat → List Nat} {wr : Nat → Int} {k mk x : Nat} (h : Walked n p nx wr k mk) (hx : x ∈ nx k) (hxn : x < n) (hw : wr k < 64) : Walked n p nx wr x (bhd mk (wr k)) :=
  ⟨hxn, bhd_le h.le hw, fun r hr hb => by
    rw [bhd_bit] at hb
    simp at hb
    have := h.bit r hr hb.1
    exact ⟨this.1, Flow.Reach.step this.2 (by unfold gr; rw [if_neg hb.2]; exact hx)⟩⟩
theorem Walked.sure {n p : Nat} {nx : Nat → List Nat} {wr : Nat → Int} {k mk m : Nat} {ms : List Nat} (h : Walked n p nx wr k mk) (T : Tells n p nx wr ms) (hm : ms[k]? = some m) : Go.bits .andNot .u64 (m : Int) (mk : Int) = 0 :=
  andnot_zero m mk fun r hr hb => by
    have := (T.iff r k hr h.lt).2 (h.bit r hr hb)
    unfold un at this
    rw [List.getD_eq_getElem?_getD, hm] at this
    exact this

end Go.Proofs.YtofahdjnejodjaaGreat

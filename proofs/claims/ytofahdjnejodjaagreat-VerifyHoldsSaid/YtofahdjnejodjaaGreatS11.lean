/- SureKnown. -/
import Derived.Test.YtofahdjnejodjaaGreatS10
import Derived.Test.YtofahdjnejodjaaGreatFh
set_option linter.unusedSimpArgs false
set_option linter.unusedVariables false
set_option linter.unusedSectionVars false
set_option linter.unnecessarySimpa false
namespace Go.Proofs.YtofahdjnejodjaaGreat
open Go.RowKit Go.Flow Go.Sure

attribute [local go_sem] Program.isFuncB Program.isSliceB

variable {w w' w'' w0 : World}

/-- where all is reached from the first one, which writes nothing, only the params are sure -/
theorem tells_first {n p : Nat} {nx : Nat → List Nat} {wr : Nat → Int} {ms : List Nat} (T : Tells n p nx wr ms) (hw : wr 0 = -1) (h : ∀ i, i < n → i = 0 ∨ i ∈ nx 0) (hp : p ≤ 8) : ms = List.replicate n (2 ^ p - 1) := by
  have hp2 : (2 : Nat) ^ p ≤ 2 ^ 8 := Nat.pow_le_pow_right (by omega) hp
  refine T.one ⟨by simp, fun m hm => by rw [(List.mem_replicate.1 hm).2]; omega, fun r i hr hi => ?_⟩
  unfold un
  rw [List.getD_eq_getElem?_getD, List.getElem?_replicate, if_pos hi, Option.getD_some, Nat.testBit_two_pow_sub_one]
  simp only [decide_eq_false_iff_not, Nat.not_lt]
  refine ⟨fun hpr => ⟨hpr, ?_⟩, fun h => h.1⟩
  rcases h i hi with rfl | h1
  · exact Flow.Reach.zero
  · exact Flow.Reach.step Flow.Reach.zero (by unfold gr; rw [if_neg (by rw [hw]; omega)]; exact h1)

theorem unset11_ok (w : World) (sa : Option Addr) (c : Nat) (is : List Ix) (p at' r : Int) (hin : CodeIn w sa is) (hlen : is.length ≤ 70) (hargs : ∀ i ∈ is, i.l.length ≤ 1000) (hN : ∀ i ∈ is, rng i.N)
    (hck : masksCk p is = 0) (hu : ∀ ms, Tells is.length p.toNat (nx (fis is)) (wrN is) ms → unsetL is ms 0 = (at', r)) :
    Calls Tryz.prog 34 #[.slice sa is.length c, .int .i64 p, .int .i64 at', .int .i64 r] w fun e w' => e = .returned (.bool true) ∧ Fr no w w' := by
  have HU := Lib.hid (sunset_ok w sa c is p hin hlen hargs hN)
  rw [hck] at HU
  clear hin hargs hN
  go_enter Tryz.func34, Tryz.ntmps34
  go_wp2_with fail
  refine HU.out.mono ?_
  rintro e w1 ⟨a, b, rfl, -, hg, r1⟩
  obtain ⟨ms, h1, h2⟩ := hg rfl
  rw [hu ms h1] at h2
  cases h2
  have R1 := Lib.hid r1
  clear hg h1 r1 HU hu
  go_wp2_with fail
  go_ret
  exact ⟨rfl, R1.out⟩

def threeL : List Ix := [⟨26, 0, 0, 0, 14, []⟩, ⟨1, 1, 0, 0, 5, []⟩, ⟨29, 1, 0, 0, 0, []⟩]
def twoL : List Ix := [⟨0, 0, 0, 0, 0, []⟩, ⟨29, 0, 0, 0, 0, []⟩]
theorem three_lit : ∀ i ∈ threeL, i.l = [] := by intro i hi; simp [threeL] at hi; rcases hi with rfl | rfl | rfl <;> rfl
theorem three_few : ∀ i ∈ threeL, i.l.length ≤ 1000 := fun i hi => by rw [three_lit i hi]; simp
theorem three_rng : ∀ i ∈ threeL, rng i.N := by intro i hi; simp [threeL] at hi; rcases hi with rfl | rfl | rfl <;> (simp [rng])
theorem two_lit : ∀ i ∈ twoL, i.l = [] := by intro i hi; simp [twoL] at hi; rcases hi with rfl | rfl <;> rfl
theorem two_few : ∀ i ∈ twoL, i.l.length ≤ 1000 := fun i hi => by rw [two_lit i hi]; simp
theorem two_rng : ∀ i ∈ twoL, rng i.N := by intro i hi; simp [twoL] at hi; rcases hi with rfl | rfl <;> (simp [rng])
theorem three_ck : flowCk threeL = 0 := by kernel_rfl
theorem two_ck : flowCk twoL = 0 := by kernel_rfl
theorem three_nx : nx (fis threeL) 0 = [1, 2] := by kernel_rfl
theorem two_nx : nx (fis twoL) 0 = [1] := by kernel_rfl
theorem three_wr : wrN threeL 0 = -1 := by kernel_rfl
theorem two_wr : wrN twoL 0 = -1 := by kernel_rfl
theorem three_tells {p : Nat} {ms : List Nat} (h : Tells 3 p (nx (fis threeL)) (wrN threeL) ms) (hp : p ≤ 8) : ms = List.replicate 3 (2 ^ p - 1) :=
  tells_first h three_wr (fun i hi => by rw [three_nx]; simp; omega) hp
theorem two_tells {p : Nat} {ms : List Nat} (h : Tells 2 p (nx (fis twoL)) (wrN twoL) ms) (hp : p ≤ 8) : ms = List.replicate 2 (2 ^ p - 1) :=
  tells_first h two_wr (fun i hi => by rw [two_nx]; simp; omega) hp
theorem three_ok (w : World) : Calls Tryz.prog 33 #[] w fun e w' => e = .returned (.slice (some ⟨w.heap.size, 0, none⟩) 3 3) ∧ CodeIn w' (some ⟨w.heap.size, 0, none⟩) threeL ∧ Fr no w w' := by
  have HC : Hid (∀ w', w'.heap[w.heap.size]? = some (.cells (litCells threeL).toArray 47 (0, 0)) → CodeIn w' (some ⟨w.heap.size, 0, none⟩) threeL) := Lib.hid (fun w' h => codeIn_lit h three_lit)
  go_enter Tryz.func33, Tryz.ntmps33
  go_wp2_with fail
  go_ret
  exact ⟨rfl, HC.out _ (heap_new _ _), (Fr.refl _ _).alloc _⟩
/-- unset of the chapter's code -/
theorem un_three (w : World) (b : Nat) (p at' r : Int) (hin : CodeIn w (some ⟨b, 0, none⟩) threeL) (hp : 0 ≤ p ∧ p ≤ 8) (hu : unsetL threeL (List.replicate 3 (2 ^ p.toNat - 1)) 0 = (at', r)) :
    Calls Tryz.prog 34 #[.slice (some ⟨b, 0, none⟩) 3 3, .int .i64 p, .int .i64 at', .int .i64 r] w fun e w' => e = .returned (.bool true) ∧ Fr no w w' :=
  unset11_ok w _ 3 threeL p at' r hin (by decide) three_few three_rng (by unfold masksCk; rw [if_neg (by omega)]; exact three_ck) (fun ms h => by rw [three_tells h (by omega)]; exact hu)
theorem un1 : unsetL threeL (List.replicate 3 (2 ^ (1 : Int).toNat - 1)) 0 = (2, 1) := by kernel_rfl
theorem un2 : unsetL threeL (List.replicate 3 (2 ^ (2 : Int).toNat - 1)) 0 = (-1, -1) := by kernel_rfl
theorem un0 : unsetL threeL (List.replicate 3 (2 ^ (0 : Int).toNat - 1)) 0 = (0, 0) := by kernel_rfl
theorem un3 : unsetL twoL (List.replicate 2 (2 ^ (0 : Int).toNat - 1)) 0 = (1, 0) := by kernel_rfl

/-- Masks, all well -/
theorem masks_good (w : World) (sa : Option Addr) (c : Nat) (is : List Ix) (p : Int) (ms : List Nat) (hin : CodeIn w sa is) (hlen : is.length ≤ 70) (hargs : ∀ i ∈ is, i.l.length ≤ 1000) (hN : ∀ i ∈ is, rng i.N)
    (hck : masksCk p is = 0) (hm : ∀ m, Tells is.length p.toNat (nx (fis is)) (wrN is) m → m = ms) :
    Calls Tryz.prog 12 #[.slice sa is.length c, .int .i64 p] w fun e w' => ∃ u, e = .returned (.tuple #[u, .int .i64 0]) ∧ Reads w' u 1 is.length (u64L ms) ∧ Fr no w w' := by
  have := masks_ok w sa c is p hin hlen hargs hN
  rw [hck] at this
  refine this.mono ?_
  rintro e w1 ⟨u, rfl, -, hg, r1⟩
  obtain ⟨m, h1, h2⟩ := hg rfl
  rw [hm m h1] at h2
  exact ⟨u, rfl, owns_reads h2, r1⟩
theorem masks_bad (w : World) (sa : Option Addr) (c : Nat) (is : List Ix) (p ck : Int) (hin : CodeIn w sa is) (hlen : is.length ≤ 70) (hargs : ∀ i ∈ is, i.l.length ≤ 1000) (hN : ∀ i ∈ is, rng i.N)
    (hck : masksCk p is = ck) (h0 : ck ≠ 0) :
    Calls Tryz.prog 12 #[.slice sa is.length c, .int .i64 p] w fun e w' => e = .returned (.tuple #[.slice none 0 0, .int .i64 ck]) ∧ Fr no w w' := by
  have := masks_ok w sa c is p hin hlen hargs hN
  rw [hck] at this
  refine this.mono ?_
  rintro e w1 ⟨u, rfl, hb, -, r1⟩
  rw [hb h0]
  exact ⟨rfl, r1⟩

set_option maxRecDepth 100000 in
set_option maxHeartbeats 8000000 in
theorem awake11_ok (w : World) : Calls Tryz.prog 10 #[] w fun e w' => e = .returned (.bool true) ∧ Fr no w w' := by
  go_enter Tryz.func10, Tryz.ntmps10
  go_wp2_with fail
  refine (three_ok w).mono ?_
  rintro e w1 ⟨rfl, hc1, r1⟩
  have HM := Lib.hid (masks_good w1 _ 3 threeL 1 [1, 1, 1] hc1 (by decide) three_few three_rng (by unfold masksCk; rw [if_neg (by omega)]; exact three_ck) (fun m h => three_tells h (by decide)))
  have R1 := Lib.hid r1
  clear hc1 r1
  go_wp2_with fail
  refine HM.out.mono ?_
  rintro e w2 ⟨u, rfl, hr, r2⟩
  have R2 := Lib.hid (R1.out.trans r2)
  have hr' : Reads w2 u 1 3 [.int .u64 1, .int .u64 1, .int .u64 1] := hr
  obtain ⟨ua, uc, rfl⟩ := hr'.shape
  obtain ⟨b0, o0, rfl, x0⟩ := hr'.at1 (k := 0) (u := .int .u64 1) (by rfl)
  obtain ⟨_, _, e1, x1⟩ := hr'.at1 (k := 1) (u := .int .u64 1) (by rfl)
  cases e1
  obtain ⟨_, _, e1, x2⟩ := hr'.at1 (k := 2) (u := .int .u64 1) (by rfl)
  cases e1
  clear hr hr' r2 HM R1
  rw [Nat.add_zero] at x0
  go_wp2_with fail
  refine (three_ok w2).mono ?_
  rintro e w3 ⟨rfl, hc3, r3⟩
  have HU3 := Lib.hid (un_three w3 _ 1 2 1 hc3 (by omega) un1)
  have R3 := Lib.hid (R2.out.trans r3)
  clear hc3 r3 R2
  go_wp2_with fail
  refine HU3.out.mono ?_
  rintro e w4 ⟨rfl, r4⟩
  have R4 := Lib.hid (R3.out.trans r4)
  clear r4 R3 HU3
  go_wp2_with fail
  refine (three_ok w4).mono ?_
  rintro e w5 ⟨rfl, hc5, r5⟩
  have HU5 := Lib.hid (un_three w5 _ 2 (-1) (-1) hc5 (by omega) un2)
  have R5 := Lib.hid (R4.out.trans r5)
  clear hc5 r5 R4
  go_wp2_with fail
  refine HU5.out.mono ?_
  rintro e w6 ⟨rfl, r6⟩
  have R6 := Lib.hid (R5.out.trans r6)
  clear r6 R5 HU5
  go_wp2_with fail
  go_ret
  exact ⟨rfl, R6.out⟩

end Go.Proofs.YtofahdjnejodjaaGreat

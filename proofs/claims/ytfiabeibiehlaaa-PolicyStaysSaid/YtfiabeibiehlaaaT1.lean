import Derived.Test.YtfiabeibiehlaaaS1
namespace Go.Proofs.Ytfiabeibiehlaaa
open Go.RowKit

attribute [local go_sem] Program.isFuncB Program.isSliceB

def pk (x : Int) (n : Nat) : Nat := ((x.tmod n + n) % n).toNat
theorem tmod_bd (x : Int) (n : Nat) (hn : 0 < n) : -(n : Int) < x.tmod n ∧ x.tmod n < n := by
  have h1 := Int.tmod_lt_of_pos x (show (0 : Int) < n by omega)
  have h2 := Int.tmod_lt_of_pos (-x) (show (0 : Int) < n by omega)
  rw [Int.neg_tmod] at h2
  omega
theorem pk_lt (x : Int) (n : Nat) (hn : 0 < n) : pk x n < n ∧ ((x.tmod n + n) % n) = (pk x n : Int) := by
  unfold pk
  have := Int.emod_nonneg (x.tmod n + n) (show (n : Int) ≠ 0 by omega)
  have := Int.emod_lt_of_pos (x.tmod n + n) (show (0 : Int) < n by omega)
  omega

set_option maxHeartbeats 400000 in
theorem pick_any (x : Int) (n : Nat) (hn : 0 < n) (hn2 : n < 1000000000) (w : World) :
    Calls Try.prog 17 #[.int .i64 x, .int .i64 n] w fun e w' => e = .returned (.int .i64 (pk x n)) ∧ w = w' := by
  have hb := tmod_bd x n hn
  have e0 : ((n : Int) == 0) = false := by simp; omega
  have HP := Lib.hid (pk_lt x n hn).2
  go_enter Try.func17, Try.ntmps17
  go_wp2
  go_ret
  exact ⟨by rw [← HP.out]; rfl, rfl⟩

/-- where they lie -/
structure Spot2 where
  b : Nat
  ba : Nat
  bp : Nat
  sv : Value
  c : Nat
  ca : Nat
  cp : Nat
  cv : Value

/-- two policies, the first without a script, both asked L -/
structure Two (W w : World) (scr : List Bool) (thr : Nat) (L : List Nat) (s : Spot2) : Prop where
  one : Pol w [] thr L s.b s.ba s.bp s.sv
  two : Pol w scr thr L s.c s.ca s.cp s.cv
  fr : Fr no W w
  new1 : W.heap.size ≤ s.b ∧ W.heap.size ≤ s.ba
  new2 : W.heap.size ≤ s.c ∧ W.heap.size ≤ s.ca
  ap1 : s.c ≠ s.b ∧ s.c ≠ s.ba ∧ s.ca ≠ s.b ∧ s.ca ≠ s.ba ∧ s.cp ≠ s.b ∧ s.cp ≠ s.ba ∧ s.bp ≠ s.c ∧ s.bp ≠ s.ca
  ap2 : ∀ k, s.cv.ownBlock = some k → k ≠ s.b ∧ k ≠ s.ba
  ap3 : ∀ k, s.sv.ownBlock = some k → k ≠ s.c ∧ k ≠ s.ca

variable {W w : World} {scr : List Bool} {thr : Nat} {L : List Nat} {s : Spot2}

theorem Two.fr1 {w' : World} {S : Nat → Prop} (h : Two W w scr thr L s) (hf : Fr S w w')
    (hS : ∀ k, S k → W.heap.size ≤ k ∧ k ≠ s.b ∧ k ≠ s.ba ∧ k ≠ s.bp ∧ k ≠ s.c ∧ k ≠ s.ca ∧ k ≠ s.cp ∧ (∀ j, s.sv.ownBlock = some j → k ≠ j) ∧ (∀ j, s.cv.ownBlock = some j → k ≠ j)) : Two W w' scr thr L s := by
  refine ⟨h.one.fr hf ?_ ?_ ?_ ?_, h.two.fr hf ?_ ?_ ?_ ?_, h.fr.trans' hf fun i hi _ => (hS i hi).1, h.new1, h.new2, h.ap1, h.ap2, h.ap3⟩
  · intro m; exact (hS _ m).2.1 rfl
  · intro m; exact (hS _ m).2.2.1 rfl
  · intro m; exact (hS _ m).2.2.2.1 rfl
  · intro k hk m; exact (hS _ m).2.2.2.2.2.2.2.1 k hk rfl
  · intro m; exact (hS _ m).2.2.2.2.1 rfl
  · intro m; exact (hS _ m).2.2.2.2.2.1 rfl
  · intro m; exact (hS _ m).2.2.2.2.2.2.1 rfl
  · intro k hk m; exact (hS _ m).2.2.2.2.2.2.2.2 k hk rfl

/-- both are asked of f, one behind the other -/
structure Mid (W w : World) (scr : List Bool) (thr : Nat) (L M : List Nat) (s : Spot2) : Prop where
  one : Pol w [] thr L s.b s.ba s.bp s.sv
  two : Pol w scr thr M s.c s.ca s.cp s.cv
  fr : Fr no W w

theorem decide_one (h : Two W w scr thr L s) (hL : L.length < 1000) (f : Nat) (hf : f < 64) :
    Calls Try.prog 11 #[.pointer (some ⟨s.b, 0, none⟩), .int .i64 f] w fun e w' => e = .returned (.bool (pans [] thr L f)) ∧ Mid W w' scr thr (L ++ [f]) L s ∧ Fr (only [s.b, s.ba]) w w' := by
  refine (decide_pol h.one (by omega) f hf).mono ?_
  rintro e w' ⟨rfl, h1, r1⟩
  have a1 := h.ap1
  have n1 := h.new1
  refine ⟨rfl, ⟨h1, h.two.fr r1 ?_ ?_ ?_ ?_, h.fr.trans' r1 (by simp; omega)⟩, r1⟩
  · simp; omega
  · simp; omega
  · simp; omega
  · intro k hk; have := h.ap2 k hk; simp; omega

theorem decide_two {L M : List Nat} (h : Mid W w scr thr L M s) (h0 : ∃ w0 L0, Two W w0 scr thr L0 s) (hL : M.length < 1000) (f : Nat) (hf : f < 64) :
    Calls Try.prog 11 #[.pointer (some ⟨s.c, 0, none⟩), .int .i64 f] w fun e w' => e = .returned (.bool (pans scr thr M f)) ∧ Mid W w' scr thr L (M ++ [f]) s ∧ Fr (only [s.c, s.ca]) w w' := by
  obtain ⟨w0, L0, h0⟩ := h0
  refine (decide_pol h.two (by omega) f hf).mono ?_
  rintro e w' ⟨rfl, h1, r1⟩
  have a1 := h0.ap1
  have n1 := h0.new2
  refine ⟨rfl, ⟨h.one.fr r1 ?_ ?_ ?_ ?_, h1, h.fr.trans' r1 (by simp; omega)⟩, r1⟩
  · simp; omega
  · simp; omega
  · simp; omega
  · intro k hk; have := h0.ap3 k hk; simp; omega

theorem Mid.two' (h : Mid W w scr thr L L s) (h0 : ∃ w0 L0, Two W w0 scr thr L0 s) : Two W w scr thr L s := by
  obtain ⟨w0, L0, h0⟩ := h0
  exact ⟨h.one, h.two, h.fr, h0.new1, h0.new2, h0.ap1, h0.ap2, h0.ap3⟩

/-- what is told of n behind the questions L: by a policy without a script -/
def tolds (thr : Nat) (L : List Nat) (n : Nat) : Bool := decide (thr ≠ 0) && decide (thr ≤ L.count n)
theorem pans_nil (thr : Nat) (L : List Nat) (f : Nat) : pans [] thr L f = tolds thr (L ++ [f]) f := by
  simp [pans, tolds, List.count_append]
theorem tolds_other (thr : Nat) (L : List Nat) (f n : Nat) (h : n ≠ f) : tolds thr (L ++ [f]) n = tolds thr L n := by
  have : List.count n [f] = 0 := by simp [List.count_singleton, Ne.symm h]
  simp [tolds, List.count_append, this]
theorem tolds_mono (thr : Nat) (L : List Nat) (f n : Nat) (h : tolds thr L n = true) : tolds thr (L ++ [f]) n = true := by
  simp only [tolds, List.count_append, Bool.and_eq_true, decide_eq_true_eq] at *
  omega
theorem pans_scr (scr : List Bool) (thr : Nat) (L : List Nat) (f : Nat) (h : L.length < scr.length) : pans scr thr L f = scr[L.length] := by simp [pans, h]
theorem pans_past (scr : List Bool) (thr : Nat) (L : List Nat) (f : Nat) (h : scr.length ≤ L.length) : pans scr thr L f = pans [] thr L f := by
  have : ¬ L.length < scr.length := by omega
  simp [pans, this]

end Go.Proofs.Ytfiabeibiehlaaa

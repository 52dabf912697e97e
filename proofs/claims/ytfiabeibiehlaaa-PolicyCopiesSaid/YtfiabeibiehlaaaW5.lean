import Derived.Test.YtfiabeibiehlaaaW4
namespace Go.Proofs.Ytfiabeibiehlaaa
open Go.RowKit

attribute [local go_sem] Program.isFuncB Program.isSliceB

/-- what is answered to f behind the questions L -/
def pans (scr : List Bool) (thr : Nat) (L : List Nat) (f : Nat) : Bool := if h : L.length < scr.length then scr[L.length] else decide (thr ≠ 0) && decide (thr ≤ L.count f + 1)

def Pol (w : World) (scr : List Bool) (thr : Nat) (L : List Nat) (b ba bp : Nat) (sv : Value) : Prop :=
  ∃ n, PolAt w ⟨scr, thr, n, L.length, fun f => L.count f⟩ b ba bp sv ∧ n ≤ L.length ∧ (n = L.length ∨ scr.length ≤ n)

theorem Pol.fr {S : Nat → Prop} {w w' : World} {scr : List Bool} {thr : Nat} {L : List Nat} {b ba bp : Nat} {sv : Value} (h : Pol w scr thr L b ba bp sv) (hf : Fr S w w')
    (h1 : ¬ S b) (h2 : ¬ S ba) (h3 : ¬ S bp) (h4 : ∀ k, sv.ownBlock = some k → ¬ S k) : Pol w' scr thr L b ba bp sv :=
  let ⟨n, h, r⟩ := h; ⟨n, h.fr hf h1 h2 h3 h4, r⟩

set_option maxHeartbeats 400000 in
theorem decide_pol {w : World} {scr : List Bool} {thr : Nat} {L : List Nat} {b ba bp : Nat} {sv : Value} (h : Pol w scr thr L b ba bp sv) (hL : L.length < 1000000) (f : Nat) (hf : f < 64) :
    Calls Try.prog 11 #[.pointer (some ⟨b, 0, none⟩), .int .i64 f] w fun e w' => e = .returned (.bool (pans scr thr L f)) ∧ Pol w' scr thr (L ++ [f]) b ba bp sv ∧ Fr (only [b, ba]) w w' := by
  obtain ⟨n, h, h1, h2⟩ := h
  have hc : L.count f ≤ L.length := List.count_le_length
  refine (decide_yes h (by show n < _; omega) hL f (by show L.count f < _; omega) hf).mono ?_
  rintro e w' ⟨rfl, h', hr⟩
  refine ⟨?_, ⟨if n < scr.length then n + 1 else n, ?_, ?_, ?_⟩, hr⟩
  · unfold PS.answer pans
    dsimp only
    rcases h2 with rfl | h2
    · rfl
    · rw [dif_neg (by omega), dif_neg (by omega)]
  · simp only [PS.next] at h'
    have e1 : (L ++ [f]).length = L.length + 1 := by simp
    have e2 : (fun g => (L ++ [f]).count g) = fun i => if i = f then L.count f + 1 else L.count i := by
      funext g
      rw [List.count_append, List.count_singleton]
      by_cases e : g = f
      · subst e; simp
      · have e' : (f == g) = false := by simpa using Ne.symm e
        simp [e, e']
    rw [e1, e2]
    exact h'
  · simp; split <;> omega
  · simp; split <;> omega

theorem asked_pol {w : World} {scr : List Bool} {thr : Nat} {L : List Nat} {b ba bp : Nat} {sv : Value} (h : Pol w scr thr L b ba bp sv) :
    Calls Try.prog 13 #[.pointer (some ⟨b, 0, none⟩)] w fun e w' => e = .returned (.int .i64 L.length) ∧ w = w' :=
  let ⟨_, h, _⟩ := h; asked_any h
theorem count_pol {w : World} {scr : List Bool} {thr : Nat} {L : List Nat} {b ba bp : Nat} {sv : Value} (h : Pol w scr thr L b ba bp sv) (f : Nat) (hf : f < 64) :
    Calls Try.prog 14 #[.pointer (some ⟨b, 0, none⟩), .int .i64 f] w fun e w' => e = .returned (.int .i64 (L.count f)) ∧ w = w' :=
  let ⟨_, h, _⟩ := h; count_yes h f hf
theorem decide_pol_no {w : World} {scr : List Bool} {thr : Nat} {L : List Nat} {b ba bp : Nat} {sv : Value} (h : Pol w scr thr L b ba bp sv) (f : Int) (hf : f < 0 ∨ 64 ≤ f) :
    Calls Try.prog 11 #[.pointer (some ⟨b, 0, none⟩), .int .i64 f] w fun e w' => e = .returned (.bool false) ∧ w = w' :=
  let ⟨_, h, _⟩ := h; decide_no h f hf
theorem count_pol_no {w : World} {scr : List Bool} {thr : Nat} {L : List Nat} {b ba bp : Nat} {sv : Value} (h : Pol w scr thr L b ba bp sv) (f : Int) (hf : f < 0 ∨ 64 ≤ f) :
    Calls Try.prog 14 #[.pointer (some ⟨b, 0, none⟩), .int .i64 f] w fun e w' => e = .returned (.int .i64 0) ∧ w = w' :=
  let ⟨_, h, _⟩ := h; count_no h f hf

set_option maxHeartbeats 400000 in
theorem new_yes (w : World) (v : Value) (xs : List Bool) (h : Reads w v 1 xs.length (xs.map .bool)) (hb : xs.length ≤ 140737488355328) (t : Nat) (ht : t ≤ 2147483647) :
    Calls Try.prog 9 #[v, .int .i64 t] w fun e w' => ∃ b ba bp sv, e = .returned (.tuple #[.pointer (some ⟨b, 0, none⟩), .int .i64 0]) ∧
      Pol w' xs t [] b ba bp sv ∧ Fr no w w' ∧ w.heap.size ≤ b ∧ w.heap.size ≤ ba ∧ w.heap.size ≤ bp ∧ ∀ k, sv.ownBlock = some k → w.heap.size ≤ k ∧ k < w'.heap.size := by
  go_enter Try.func9, Try.ntmps9
  go_wp2_with fail
  refine (made_any _ v xs h hb 0 t).mono ?_
  rintro e w1 ⟨b, ba, bp, sv, rfl, h1, r1, k1, k2, k3, k4⟩
  go_wp2_with fail
  go_ret2
  exact ⟨b, ba, bp, sv, rfl, ⟨0, h1, by simp, .inl rfl⟩, r1, k1, k2, k3, k4⟩

set_option maxHeartbeats 400000 in
theorem new_no (w : World) (v : Value) (t : Int) (ht : t < 0 ∨ 2147483647 < t) :
    Calls Try.prog 9 #[v, .int .i64 t] w fun e w' => e = .returned (.tuple #[.pointer none, .int .i64 2]) ∧ w = w' := by
  by_cases h : t < 0
  · go_enter Try.func9, Try.ntmps9
    go_wp2_with fail
    go_ret2
    exact ⟨rfl, rfl⟩
  · have h2 : 2147483647 < t := by omega
    clear ht
    go_enter Try.func9, Try.ntmps9
    go_wp2_with fail
    go_ret2
    exact ⟨rfl, rfl⟩

set_option maxHeartbeats 400000 in
theorem says_pol {w : World} {scr : List Bool} {thr : Nat} {L : List Nat} {b ba bp : Nat} {sv : Value} (h : Pol w scr thr L b ba bp sv) (hL : L.length < 1000000) (f : Nat) (hf : f < 64) (x : Bool) :
    Calls Try.prog 16 #[.pointer (some ⟨b, 0, none⟩), .int .i64 f, .bool x] w fun e w' => e = .returned (.bool (pans scr thr L f == x)) ∧ Pol w' scr thr (L ++ [f]) b ba bp sv ∧ Fr (only [b, ba]) w w' := by
  go_enter Try.func16, Try.ntmps16
  go_wp2_with fail
  refine (decide_pol h hL f hf).mono ?_
  rintro e w1 ⟨rfl, h1, r1⟩
  go_wp2_with fail
  go_ret
  exact ⟨rfl, h1, r1⟩

end Go.Proofs.Ytfiabeibiehlaaa

import Derived.Test.YtkgcfllbkjlfcaaO12
namespace Go.Proofs.Ytkgcfllbkjlfcaa
open Go.RowKit

attribute [local go_sem] Program.isFuncB Program.isSliceB

variable {w w' w'' w0 : World}

def out1 (regs n : Int) : Bool := decide (n < 0) || decide (regs ≤ n)

theorem out_ok (w : World) (n regs : Int) (rb : Nat) (hc : w.cell? ⟨rb, 0, none⟩ = some (.int .i64 regs)) :
    Calls Try.prog 39 #[.int .i64 n, .pointer (some ⟨rb, 0, none⟩)] w fun e w' => e = .returned (.bool (out1 regs n)) ∧ w = w' := by
  by_cases h0 : n < 0
  · have HO : Hid (out1 regs n = true) := Lib.hid (by simp [out1, h0])
    go_enter Try.func39, Try.ntmps39
    go_wp2_with fail
    go_ret
    exact ⟨by rw [HO.out]; rfl, rfl⟩
  · have HO : Hid (out1 regs n = decide (regs ≤ n)) := Lib.hid (by simp [out1, h0])
    go_enter Try.func39, Try.ntmps39
    go_wp2_with fail
    go_ret
    exact ⟨by rw [HO.out]; rfl, rfl⟩

/-- the first number out of reach -/
def outAt (regs : Int) (l : List Int) : Int := match l.findIdx? (out1 regs) with | some i => i | none => -1
theorem outAt_ge (regs : Int) (l : List Int) : decide (0 ≤ outAt regs l) = l.any (out1 regs) := by
  unfold outAt
  cases h : l.findIdx? (out1 regs) with
  | none =>
    rw [List.findIdx?_eq_none_iff] at h
    have : l.any (out1 regs) = false := by rw [List.any_eq_false]; intro x hx; simpa using h x hx
    rw [this]; rfl
  | some i =>
    rw [List.findIdx?_eq_some_iff_getElem] at h
    obtain ⟨hi, h1, _⟩ := h
    have : l.any (out1 regs) = true := List.any_eq_true.2 ⟨l[i], List.getElem_mem hi, h1⟩
    rw [this]
    exact decide_eq_true (show (0 : Int) ≤ (i : Int) from by omega)

set_option maxHeartbeats 1000000 in
theorem indexOut (w : World) (regs : Int) (rb : Nat) (v : Value) (l : List Int) (hv : Reads w v 1 l.length (ints l)) (hl : l.length ≤ 1000000) (hc : w.cell? ⟨rb, 0, none⟩ = some (.int .i64 regs)) :
    Calls Try.prog 48 #[v, .func (.func 39) #[] #[.pointer (some ⟨rb, 0, none⟩)]] w fun e w' => e = .returned (.int .i64 (outAt regs l)) ∧ w = w' := by
  obtain ⟨sa, sc, rfl⟩ := hv.shape
  have HV := Lib.hid hv
  have HC := Lib.hid hc
  clear hv hc
  go_enter Try.func48, Try.ntmps48
  go_wp2_with fail
  go_loopw [8] (fun x wr => ∃ i : Nat, x = .int .i64 i ∧ i ≤ l.length ∧ Hid (∀ j (hj : j < l.length), j < i → out1 regs l[j] = false) ∧ wr = w) (fun x _ => (l.length - intOf x).toNat)
  case atStart => exact ⟨0, rfl, by omega, Lib.hid fun j hj h => by omega, rfl⟩
  case round =>
    obtain ⟨i, rfl, hi, hno, rfl⟩ := hrel
    by_cases hlt : i < l.length
    · obtain ⟨b, o, rfl, c0⟩ := HV.out.at1 (k := i) (u := .int .i64 l[i]) (by simp [ints, hlt])
      have C := Lib.hid (out_ok wr l[i] regs rb HC.out)
      have hlt' : (i : Int) < l.length := by omega
      cases hq : out1 regs l[i] with
      | true =>
        have HF : Hid (outAt regs l = i) := by
          refine Lib.hid ?_
          have : l.findIdx? (out1 regs) = some i := by
            rw [List.findIdx?_eq_some_iff_getElem]
            exact ⟨hlt, hq, fun j hj => by rw [hno.out j (by omega) hj]; simp⟩
          unfold outAt; rw [this]
        rw [hq] at C
        generalize l[i] = z at *
        clear hq
        go_wp2_with fail
        refine C.out.mono ?_
        rintro e w' ⟨rfl, rfl⟩
        go_wp2_with fail
        go_ret
        exact ⟨by rw [HF.out]; rfl, rfl⟩
      | false =>
        have HNO : Hid (∀ j (hj : j < l.length), j < i + 1 → out1 regs l[j] = false) := Lib.hid fun j hj h => by
          rcases Nat.lt_or_ge j i with h2 | h2
          · exact hno.out j hj h2
          · obtain rfl : j = i := by omega
            exact hq
        rw [hq] at C
        generalize l[i] = z at *
        clear hq
        go_wp2_with fail
        refine C.out.mono ?_
        rintro e w' ⟨rfl, rfl⟩
        go_wp2_with fail
        go_roundw
        case rel => exact ⟨i + 1, by go_num, by omega, HNO, by trivial⟩
        case measure => first | (simp [intOf]; done) | (simp [intOf]; omega)
    · obtain rfl : i = l.length := by omega
      have HF : Hid (outAt regs l = -1) := by
        refine Lib.hid ?_
        have : l.findIdx? (out1 regs) = none := by
          rw [List.findIdx?_eq_none_iff]
          intro x hx
          obtain ⟨j, hj, rfl⟩ := List.getElem_of_mem hx
          exact hno.out j hj hj
        unfold outAt; rw [this]
      go_wp2_with fail
      go_ret
      exact ⟨by rw [HF.out]; rfl, rfl⟩

theorem anyOut (w : World) (regs : Int) (rb : Nat) (v : Value) (l : List Int) (hv : Reads w v 1 l.length (ints l)) (hl : l.length ≤ 1000000) (hc : w.cell? ⟨rb, 0, none⟩ = some (.int .i64 regs)) :
    Calls Try.prog 37 #[v, .func (.func 39) #[] #[.pointer (some ⟨rb, 0, none⟩)]] w fun e w' => e = .returned (.bool (l.any (out1 regs))) ∧ w = w' := by
  have C := indexOut w regs rb v l hv hl hc
  rw [← outAt_ge]
  generalize outAt regs l = x at *
  have HC := Lib.hid C
  clear C hv hc
  go_enter Try.func37, Try.ntmps37
  go_wp2_with fail
  refine HC.out.mono ?_
  rintro e w' ⟨rfl, rfl⟩
  go_wp2_with fail
  go_ret
  exact ⟨rfl, rfl⟩

end Go.Proofs.Ytkgcfllbkjlfcaa

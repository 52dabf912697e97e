import Derived.Test.YtpgmfifieilhkaaK2
namespace Go.Proofs.Ytpgmfifieilhkaa
open Go.RowKit

attribute [local go_sem] Program.isFuncB Program.isSliceB

variable {w w' w'' : World} {words : Nat} {P P' P'' : List (Nat × List Nat)} {s : CS}

/-- all cells, the spare ones too, are words -/
structure AllU (w : World) (g cap : Nat) (cur : Array Value) : Prop where
  at_ : w.heap[g]? = some (.cells cur 52 (0, 0))
  sz : cur.size = cap
  few : cap ≤ maxLen
  all : ∀ i, i < cap → ∃ k : Nat, k < 4294967296 ∧ cur[i]? = some (.int .u32 k)

theorem AllU.set {g cap i : Nat} {cur : Array Value} {k : Nat} (h : AllU w g cap cur) (hk : k < 4294967296) :
    AllU (w.setCell ⟨g, i, none⟩ (.int .u32 k)) g cap (cur.setIfInBounds i (.int .u32 k)) := by
  refine ⟨heap_setCell h.at_, by simp [h.sz], h.few, fun j hj => ?_⟩
  have hjs : j < cur.size := by rw [h.sz]; exact hj
  by_cases hij : i = j
  · subst hij
    exact ⟨k, hk, by rw [Array.getElem?_setIfInBounds_self_of_lt hjs]⟩
  · obtain ⟨x, hx, hc⟩ := h.all j hj
    exact ⟨x, hx, by rw [Array.getElem?_setIfInBounds_ne hij, hc]⟩

theorem ownsZ_allU {base : Nat} {v : Value} {l : List Nat} {n : Nat} (h : ownsZ w base 52 (.int .u32 0) v n (u32s l)) (hl : ∀ x ∈ l, x < 4294967296) :
    (v = .slice none 0 0) ∨ ∃ g cap cur, v = .slice (some ⟨g, 0, none⟩) n cap ∧ n ≤ cap ∧ AllU w g cap cur := by
  rcases h.2 with ⟨h2, _⟩ | ⟨g, cap, cur, rfl, hb, hg, h3, h4, h5⟩
  · exact .inl h2
  · have hs := congrArg List.length h5
    rw [List.length_append, List.length_replicate, h.1] at hs
    refine .inr ⟨g, cap, cur, rfl, h3, hg, by simp at hs; omega, h4, fun i hi => ?_⟩
    have h1 := h.1
    rw [u32s_len] at h1
    rw [← Array.getElem?_toList, h5]
    rcases Nat.lt_or_ge i l.length with h6 | h6
    · exact ⟨l[i], hl _ (List.getElem_mem h6), by rw [List.getElem?_append_left (by rw [u32s_len]; exact h6)]; simp [u32s, h6]⟩
    · refine ⟨0, by omega, ?_⟩
      rw [List.getElem?_append_right (by rw [u32s_len]; exact h6), List.getElem?_replicate, if_pos (by rw [u32s_len]; omega)]; rfl

set_option maxHeartbeats 1000000 in
theorem over_nil (w : World) : Calls Try.prog 20 #[.slice none 0 0] w fun e w' => e = .returned (.tuple #[]) ∧ w = w' := by
  go_enter Try.func20, Try.ntmps20
  go_wp2_with fail
  go_loopw [3] (fun x wr => x = .int .i64 0 ∧ wr = w) (fun _ _ => 0)
  case atStart => exact ⟨rfl, rfl⟩
  case round =>
    obtain ⟨rfl, rfl⟩ := hrel
    go_wp2_with fail
    go_end0
    exact ⟨rfl, rfl⟩

set_option maxHeartbeats 1000000 in
theorem over_some (w : World) (g n cap : Nat) (cur : Array Value) (hn : n ≤ cap) (h : AllU w g cap cur) :
    Calls Try.prog 20 #[.slice (some ⟨g, 0, none⟩) n cap] w fun e w' => e = .returned (.tuple #[]) ∧ Fr (only [g]) w w' := by
  have hc := h.few
  have hc63 : cap ≤ 9223372036854775807 := by unfold maxLen at hc; omega
  have H := Lib.hid h
  clear h hc
  go_enter Try.func20, Try.ntmps20
  go_wp2_with fail
  go_loopw [3] (fun x wr => ∃ i cur', x = .int .i64 (i : Nat) ∧ i ≤ cap ∧ AllU wr g cap cur' ∧ Fr (only [g]) w wr) (fun x _ => (cap - intOf x).toNat)
  case atStart => exact ⟨0, cur, rfl, by omega, H.out, Fr.refl _ _⟩
  case round =>
    obtain ⟨i, cur', rfl, hi, ha, fr⟩ := hrel
    have FR := Lib.hid fr
    have HA := Lib.hid ha
    by_cases hlt : i < cap
    · obtain ⟨k, hk, hc⟩ := ha.all i hlt
      have c1 : wr.cell? ⟨g, i, none⟩ = some (.int .u32 k) := cell_of_heap ha.at_ hc
      have z1 : wr.frozen? ⟨g, i, none⟩ = false := frozen_of_heap ha.at_
      have hlt' : (i : Int) < cap := by omega
      have hs := ha.set (i := i) (k := (k + 9) % 4294967296) (Nat.mod_lt _ (by omega))
      rw [show (((k + 9) % 4294967296 : Nat) : Int) = ((k : Int) + 9) % 4294967296 from by omega] at hs
      have HS := Lib.hid hs
      clear ha fr hc hk hs
      go_wp2_with fail
      go_roundw
      case rel => exact ⟨i + 1, _, by go_num, by omega, HS.out, FR.out.setCell _ _ (.inl (by simp))⟩
      case measure => first | (simp [intOf]; done) | (simp [intOf]; omega)
    · obtain rfl : i = cap := by omega
      clear ha fr
      go_wp2_with fail
      go_end0
      exact ⟨rfl, FR.out⟩

theorem over_words {base : Nat} {v : Value} {l : List Nat} {n : Nat} (h : ownsZ w base 52 (.int .u32 0) v n (u32s l)) (hl : ∀ x ∈ l, x < 4294967296) :
    Calls Try.prog 20 #[v] w fun e w' => e = .returned (.tuple #[]) ∧ Fr (fun k => v.ownBlock = some k) w w' := by
  rcases ownsZ_allU h hl with rfl | ⟨g, cap, cur, rfl, hn, ha⟩
  · refine (over_nil w).mono ?_
    rintro e w' ⟨rfl, rfl⟩
    exact ⟨rfl, Fr.refl _ _⟩
  · refine (over_some w g n cap cur hn ha).mono ?_
    rintro e w' ⟨rfl, fr⟩
    exact ⟨rfl, fr.mono fun k hk _ => by simp at hk; rw [hk]; rfl⟩

end Go.Proofs.Ytpgmfifieilhkaa

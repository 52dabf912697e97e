import Derived.Test.YtpgmfifieilhkaaR3
namespace Go.Proofs.Ytpgmfifieilhkaa
open Go.RowKit

attribute [local go_sem] Program.isFuncB Program.isSliceB

variable {w w' w'' : World} {words : Nat} {P P' P'' : List (Nat × List Nat)}

set_option maxHeartbeats 1000000 in
theorem ref_put_arg (w : World) (rb : Nat) (f : Int) (xa : Option Addr) (n c : Nat) (hf : f < 0 ∨ 64 ≤ f ∨ n = 0) (hn : n ≤ 9223372036854775807) :
    Calls Try.prog 19 #[.pointer (some ⟨rb, 0, none⟩), .int .i64 f, .slice xa n c] w fun e w' => e = .returned (.tuple #[.int .u64 0, .int .i64 2]) ∧ w = w' := by
  by_cases h0 : f < 0
  · clear hf
    go_enter Try.func19, Try.ntmps19
    go_wp2_with fail
    go_ret2
    exact ⟨rfl, rfl⟩
  by_cases h2 : 64 ≤ f
  · clear hf
    go_enter Try.func19, Try.ntmps19
    go_wp2_with fail
    go_ret2
    exact ⟨rfl, rfl⟩
  · obtain rfl : n = 0 := by omega
    clear hf
    go_enter Try.func19, Try.ntmps19
    go_wp2_with fail
    go_ret2
    exact ⟨rfl, rfl⟩

set_option maxHeartbeats 1000000 in
theorem ref_put_exists {r : RS} (h : RefAt w words P r) (f : Nat) (hf : f < 64) (hm : f ∈ P.map (·.1)) (xa : Option Addr) (n c : Nat) (hn : 0 < n) :
    Calls Try.prog 19 #[.pointer (some ⟨r.b, 0, none⟩), .int .i64 f, .slice xa n c] w fun e w' => e = .returned (.tuple #[.int .u64 0, .int .i64 7]) ∧ w = w' := by
  have H := Lib.hid h
  have HM := Lib.hid hm
  clear h hm
  have hn1 : ((n : Int) == 0) = false := by simp; omega
  have hn2 : (n == 0) = false := by simp; omega
  go_enter Try.func19, Try.ntmps19
  go_wp2_with fail
  refine (ref_addr H.out f).mono ?_
  rintro e w' ⟨⟨i, hi, _, rfl⟩ | ⟨hno, rfl⟩, rfl⟩
  · go_wp2_with fail
    go_ret2
    exact ⟨rfl, rfl⟩
  · exfalso
    obtain ⟨i, hi, rfl⟩ := idx_of HM.out
    exact hno i hi rfl

set_option maxHeartbeats 1000000 in
theorem ref_put_full {r : RS} (h : RefAt w words P r) (f : Nat) (hf : f < 64) (hm : f ∉ P.map (·.1)) (xa : Option Addr) (n c : Nat) (hn : 0 < n) (hx : n ≤ 1000000) (hr : words - (flat P).length < n) :
    Calls Try.prog 19 #[.pointer (some ⟨r.b, 0, none⟩), .int .i64 f, .slice xa n c] w fun e w' => e = .returned (.tuple #[.int .u64 0, .int .i64 8]) ∧ ∃ q, w' = w.drewN q := by
  obtain ⟨ca, cc, hcv⟩ := owns_shape h.wds
  have e1 : w.cell? ⟨r.b, 1, none⟩ = some (.slice ca (flat P).length cc) := by rw [← hcv]; exact cell_of_heap h.obj rfl
  have e0 : w.cell? ⟨r.b, 0, none⟩ = some (.int .i64 words) := cell_of_heap h.obj rfl
  have hlen := h.ok.room
  have hfew := h.ok.few
  have H := Lib.hid h
  have HM := Lib.hid hm
  clear h hm hcv
  have hn1 : ((n : Int) == 0) = false := by simp; omega
  have hn2 : (n == 0) = false := by simp; omega
  go_enter Try.func19, Try.ntmps19
  go_wp2_with fail
  refine (ref_addr H.out f).mono ?_
  rintro e w' ⟨⟨i, hi, he, rfl⟩ | ⟨hno, rfl⟩, rfl⟩
  · exfalso
    exact HM.out (by rw [← Int.ofNat.inj he]; exact List.mem_map_of_mem (List.getElem_mem hi))
  · clear hno
    have hgt : (words : Int) < (flat P).length + n := by omega
    go_wp2_with fail
    go_quiet (fail)
    go_wp2_with fail
    go_ret2
    exact ⟨rfl, _, rfl⟩

end Go.Proofs.Ytpgmfifieilhkaa

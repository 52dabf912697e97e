import Derived.Test.YtfiabeibiehlaaaBase
namespace Go.Proofs.Ytfiabeibiehlaaa
open Go.RowKit

attribute [local go_sem] Program.isFuncB Program.isSliceB

set_option maxHeartbeats 400000 in
theorem there_yes (f : Int) (w : World) (h0 : 0 ≤ f) (h1 : f < 64) :
    Calls Try.prog 21 #[.int .i64 f] w fun e w' => e = .returned (.bool true) ∧ w = w' := by
  go_enter Try.func21, Try.ntmps21
  go_wp2
  go_ret
  exact ⟨rfl, rfl⟩

set_option maxHeartbeats 400000 in
theorem there_no (f : Int) (w : World) (h0 : f < 0 ∨ 64 ≤ f) :
    Calls Try.prog 21 #[.int .i64 f] w fun e w' => e = .returned (.bool false) ∧ w = w' := by
  by_cases h : 0 ≤ f
  · have h1 : 64 ≤ f := by omega
    have h2 : decide (f < 64) = false := by simp; omega
    clear h0
    go_enter Try.func21, Try.ntmps21
    go_wp2
    go_ret
    exact ⟨by simp [h2], rfl⟩
  · go_enter Try.func21, Try.ntmps21
    go_wp2
    go_ret
    exact ⟨rfl, rfl⟩

set_option maxHeartbeats 400000 in
theorem none_no (b o : Nat) (fn : Fn) (c d : Array Value) (w : World) (h : w.cell? ⟨b, o+67, none⟩ = some (.func fn c d)) :
    Calls Try.prog 20 #[.pointer (some ⟨b, o, none⟩)] w fun e w' => e = .returned (.bool false) ∧ w = w' := by
  go_enter Try.func20, Try.ntmps20
  go_wp2
  go_ret
  exact ⟨rfl, rfl⟩

set_option maxHeartbeats 400000 in
theorem none_made (b o : Nat) (w : World) (h : w.cell? ⟨b, o+67, none⟩ = some .nilFunc) :
    Calls Try.prog 20 #[.pointer (some ⟨b, o, none⟩)] w fun e w' => e = .returned (.bool true) ∧ w = w' := by
  go_enter Try.func20, Try.ntmps20
  go_wp2
  go_ret
  exact ⟨rfl, rfl⟩

set_option maxHeartbeats 400000 in
theorem none_nil (w : World) :
    Calls Try.prog 20 #[.pointer none] w fun e w' => e = .returned (.bool true) ∧ w = w' := by
  go_enter Try.func20, Try.ntmps20
  go_wp2
  go_ret
  exact ⟨rfl, rfl⟩

set_option maxHeartbeats 400000 in
theorem add_any (b o : Nat) (n d s : Int) (w : World) (h : w.cell? ⟨b, o, none⟩ = some (.int .i64 n)) (hf : w.frozen? ⟨b, o, none⟩ = false) 
    (h0 : -9223372036854775808 ≤ n + d) (h1 : n + d ≤ 9223372036854775807) (hs : s = n + d) :
    Calls Try.prog 22 #[.pointer (some ⟨b, o, none⟩), .int .i64 d] w fun e w' => e = .returned (.int .i64 s) ∧ w.setCell ⟨b, o, none⟩ (.int .i64 s) = w' := by
  have hr : (Op.intArith .add .i64 n d).run Try.prog w = .ok (.int .i64 s) w := by
    subst hs
    have := IntWalk.wrap64_in (n + d) ⟨by omega, by omega⟩
    simp [Op.intArith, go_sem]
    exact IntWalk.i64_in _ ⟨by omega, by omega⟩
  have hcas := run_call_add (P := Try.prog) Try.func27 (by kernel_rfl) (by kernel_rfl) (by kernel_rfl) .i64 (by kernel_rfl) h hf hr
  clear hr hs h0 h1
  go_enter Try.func22, Try.ntmps22
  go_wp2
  go_ret
  exact ⟨rfl, rfl⟩

set_option maxHeartbeats 400000 in
theorem load_any (b o : Nat) (n : Int) (w : World) (h : w.cell? ⟨b, o, none⟩ = some (.int .i64 n)) :
    Calls Try.prog 23 #[.pointer (some ⟨b, o, none⟩)] w fun e w' => e = .returned (.int .i64 n) ∧ w = w' := by
  have hcas := run_call_load (P := Try.prog) Try.func28 (by kernel_rfl) (by kernel_rfl) (by kernel_rfl) .i64 (by kernel_rfl) h
  go_enter Try.func23, Try.ntmps23
  go_wp2
  go_ret
  exact ⟨rfl, rfl⟩

set_option maxHeartbeats 400000 in
theorem store_any (b o : Nat) (n s : Int) (w : World) (h : w.cell? ⟨b, o, none⟩ = some (.int .i64 n)) (hf : w.frozen? ⟨b, o, none⟩ = false) :
    Calls Try.prog 24 #[.pointer (some ⟨b, o, none⟩), .int .i64 s] w fun e w' => e = .returned (.tuple #[]) ∧ w.setCell ⟨b, o, none⟩ (.int .i64 s) = w' := by
  have hcas := run_call_store (P := Try.prog) Try.func29 (by kernel_rfl) (by kernel_rfl) (by kernel_rfl) (by kernel_rfl) h hf (y := s) (k := .i64)
  go_enter Try.func24, Try.ntmps24
  go_wp2
  go_end0
  exact ⟨rfl, rfl⟩

end Go.Proofs.Ytfiabeibiehlaaa

import Derived.Test.YtihnkijeefkefaaGreatQ16
import Derived.Test.YtihnkijeefkefaaGreatMC
set_option linter.unusedSimpArgs false
set_option linter.unusedVariables false
set_option linter.unusedSectionVars false
set_option linter.unnecessarySimpa false
set_option maxRecDepth 100000
/- slices.Clone of rows. -/
namespace Go.Proofs.YtihnkijeefkefaaGreat
open Go.RowKit

attribute [local go_sem] Program.isFuncB Program.isSliceB

variable {w w' w'' w0 : World}

theorem Tryz.infoInt3 : (Tryz.prog.info? 3).map (fun i => (i.zero, i.size, i.bytes)) = some (some (.int .i64 0), 1, 8) := by kernel_rfl
theorem clone_fns (w : World) (v : Value) (n : Nat) (xs : List Value) (hb : Reads w v 4 n xs) (h1 : ∀ u ∈ xs, u.oneCell' = true) (hl : n ≤ 1000000) :
    Calls Tryz.prog 120 #[v] w fun e w' => ∃ x, e = .returned x ∧ w'.ownsRow w.heap.size 41 4 x n xs ∧ Fr no w w' := by
  rcases hb with ⟨rfl, rfl, rfl⟩ | ⟨ad, cap, rfl, h2, h3, h4, h5⟩
  · go_enter Tryz.func120, Tryz.ntmps120
    go_wp2_with fail
    go_ret
    exact ⟨_, rfl, World.ownsRow_nil _ _ _ _, Fr.refl _ _⟩
  · have hb : Reads w (.slice (some ad) n cap) 4 n xs := .inr ⟨ad, cap, rfl, h2, h3, h4, h5⟩
    have r0 := (Fr.refl no w).alloc (.cells #[] 41)
    have HO := Lib.hid (owns_new w 41 4)
    have HB := Lib.hid (hb.fr r0 (by simp))
    have R0 := Lib.hid r0
    clear hb r0 h2 h3 h4 h5
    go_enter Tryz.func120, Tryz.ntmps120
    go_wp2_with (at_builtin; (refine wpList_append_at rfl (.tmp 5) _ 23 rfl w.heap.size 41 (.agg zeroFn) 4 48 Tryz.underlying23 Tryz.infoFunc3 rfl (by decide) _ 0 _ rfl HO.out n _ HB.out h1 (by unfold maxLen; omega) (by omega) (by simp only [World.size_alloc]; omega) ?_); intro ga gc w6 ho hg hb)
    have R6 := R0.out.trans' ((Fr.refl (fun k => (Value.slice (some ⟨w.heap.size, 0, none⟩) 0 0).ownBlock = some k) _).grown hg (fun k hk => .inl hk)) (fun k hk _ => by simp [Value.ownBlock] at hk; omega)
    have HO6 : Hid (w6.ownsRow w.heap.size 41 4 (.slice ga n gc) n xs) := Lib.hid (by simpa using ho)
    clear ho hg hb
    go_ret
    exact ⟨_, rfl, HO6.out, R6⟩
theorem clone_ins (w : World) (v : Value) (n : Nat) (xs : List Value) (hb : Reads w v 6 n xs) (h1 : ∀ u ∈ xs, u.oneCell' = true) (hl : n ≤ 1000000) :
    Calls Tryz.prog 121 #[v] w fun e w' => ∃ x, e = .returned x ∧ w'.ownsRow w.heap.size 112 6 x n xs ∧ Fr no w w' := by
  rcases hb with ⟨rfl, rfl, rfl⟩ | ⟨ad, cap, rfl, h2, h3, h4, h5⟩
  · go_enter Tryz.func121, Tryz.ntmps121
    go_wp2_with fail
    go_ret
    exact ⟨_, rfl, World.ownsRow_nil _ _ _ _, Fr.refl _ _⟩
  · have hb : Reads w (.slice (some ad) n cap) 6 n xs := .inr ⟨ad, cap, rfl, h2, h3, h4, h5⟩
    have r0 := (Fr.refl no w).alloc (.cells #[] 112)
    have HO := Lib.hid (owns_new w 112 6)
    have HB := Lib.hid (hb.fr r0 (by simp))
    have R0 := Lib.hid r0
    clear hb r0 h2 h3 h4 h5
    go_enter Tryz.func121, Tryz.ntmps121
    go_wp2_with (at_builtin; (refine wpList_append_at rfl (.tmp 5) _ 39 rfl w.heap.size 112 (.agg zeroIns) 6 64 Tryz.underlying39 Tryz.infoIns3 rfl (by decide) _ 0 _ rfl HO.out n _ HB.out h1 (by unfold maxLen; omega) (by omega) (by simp only [World.size_alloc]; omega) ?_); intro ga gc w6 ho hg hb)
    have R6 := R0.out.trans' ((Fr.refl (fun k => (Value.slice (some ⟨w.heap.size, 0, none⟩) 0 0).ownBlock = some k) _).grown hg (fun k hk => .inl hk)) (fun k hk _ => by simp [Value.ownBlock] at hk; omega)
    have HO6 : Hid (w6.ownsRow w.heap.size 112 6 (.slice ga n gc) n xs) := Lib.hid (by simpa using ho)
    clear ho hg hb
    go_ret
    exact ⟨_, rfl, HO6.out, R6⟩
theorem clone_ints (w : World) (v : Value) (n : Nat) (xs : List Value) (hb : Reads w v 1 n xs) (h1 : ∀ u ∈ xs, u.oneCell' = true) (hl : n ≤ 1000000) :
    Calls Tryz.prog 122 #[v] w fun e w' => ∃ x, e = .returned x ∧ w'.ownsRow w.heap.size 3 1 x n xs ∧ Fr no w w' := by
  rcases hb with ⟨rfl, rfl, rfl⟩ | ⟨ad, cap, rfl, h2, h3, h4, h5⟩
  · go_enter Tryz.func122, Tryz.ntmps122
    go_wp2_with fail
    go_ret
    exact ⟨_, rfl, World.ownsRow_nil _ _ _ _, Fr.refl _ _⟩
  · have hb : Reads w (.slice (some ad) n cap) 1 n xs := .inr ⟨ad, cap, rfl, h2, h3, h4, h5⟩
    have r0 := (Fr.refl no w).alloc (.cells #[] 3)
    have HO := Lib.hid (owns_new w 3 1)
    have HB := Lib.hid (hb.fr r0 (by simp))
    have R0 := Lib.hid r0
    clear hb r0 h2 h3 h4 h5
    go_enter Tryz.func122, Tryz.ntmps122
    go_wp2_with (at_builtin; (refine wpList_append_at rfl (.tmp 5) _ 26 rfl w.heap.size 3 (.int .i64 0) 1 8 Tryz.underlying26 Tryz.infoInt3 rfl (by decide) _ 0 _ rfl HO.out n _ HB.out h1 (by unfold maxLen; omega) (by omega) (by simp only [World.size_alloc]; omega) ?_); intro ga gc w6 ho hg hb)
    have R6 := R0.out.trans' ((Fr.refl (fun k => (Value.slice (some ⟨w.heap.size, 0, none⟩) 0 0).ownBlock = some k) _).grown hg (fun k hk => .inl hk)) (fun k hk _ => by simp [Value.ownBlock] at hk; omega)
    have HO6 : Hid (w6.ownsRow w.heap.size 3 1 (.slice ga n gc) n xs) := Lib.hid (by simpa using ho)
    clear ho hg hb
    go_ret
    exact ⟨_, rfl, HO6.out, R6⟩
theorem clone_links (w : World) (v : Value) (n : Nat) (xs : List Value) (hb : Reads w v 4 n xs) (h1 : ∀ u ∈ xs, u.oneCell' = true) (hl : n ≤ 1000000) :
    Calls Tryz.prog 108 #[v] w fun e w' => ∃ x, e = .returned x ∧ w'.ownsRow w.heap.size 121 4 x n xs ∧ Fr no w w' := by
  rcases hb with ⟨rfl, rfl, rfl⟩ | ⟨ad, cap, rfl, h2, h3, h4, h5⟩
  · go_enter Tryz.func108, Tryz.ntmps108
    go_wp2_with fail
    go_ret
    exact ⟨_, rfl, World.ownsRow_nil _ _ _ _, Fr.refl _ _⟩
  · have hb : Reads w (.slice (some ad) n cap) 4 n xs := .inr ⟨ad, cap, rfl, h2, h3, h4, h5⟩
    have r0 := (Fr.refl no w).alloc (.cells #[] 121)
    have HO := Lib.hid (owns_new w 121 4)
    have HB := Lib.hid (hb.fr r0 (by simp))
    have R0 := Lib.hid r0
    clear hb r0 h2 h3 h4 h5
    go_enter Tryz.func108, Tryz.ntmps108
    go_wp2_with (at_builtin; (refine wpList_append_at rfl (.tmp 5) _ 92 rfl w.heap.size 121 (.agg #[.int .i64 0, .int .i64 0, .int .i64 0, .int .i64 0]) 4 32 Tryz.underlying92 Tryz.infoFour3 rfl (by decide) _ 0 _ rfl HO.out n _ HB.out h1 (by unfold maxLen; omega) (by omega) (by simp only [World.size_alloc]; omega) ?_); intro ga gc w6 ho hg hb)
    have R6 := R0.out.trans' ((Fr.refl (fun k => (Value.slice (some ⟨w.heap.size, 0, none⟩) 0 0).ownBlock = some k) _).grown hg (fun k hk => .inl hk)) (fun k hk _ => by simp [Value.ownBlock] at hk; omega)
    have HO6 : Hid (w6.ownsRow w.heap.size 121 4 (.slice ga n gc) n xs) := Lib.hid (by simpa using ho)
    clear ho hg hb
    go_ret
    exact ⟨_, rfl, HO6.out, R6⟩

end Go.Proofs.YtihnkijeefkefaaGreat

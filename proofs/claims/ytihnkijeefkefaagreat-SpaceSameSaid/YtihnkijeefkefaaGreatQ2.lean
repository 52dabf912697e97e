import Derived.Test.YtihnkijeefkefaaGreatQ1
import Derived.Laws.CopyOwn
set_option linter.unusedSimpArgs false
set_option linter.unusedVariables false
set_option linter.unusedSectionVars false
set_option linter.unnecessarySimpa false
set_option maxRecDepth 100000
/- The program's memory. -/
namespace Go.Proofs.YtihnkijeefkefaaGreat
open Go.RowKit

attribute [local go_sem] Program.isFuncB Program.isSliceB

variable {w w' w'' w0 : World}

structure MemAt (w : World) (q g n c : Nat) (bs : List Nat) : Prop where
  obj : w.heap[q]? = some (.cells #[.slice (some ⟨g, 0, none⟩) n c] 176 (0, 0))
  row : w.ownsRow 0 5 1 (.slice (some ⟨g, 0, none⟩) n c) n (u8s bs)
  lt : ∀ x ∈ bs, x < 256
section
variable {q g n c : Nat} {bs : List Nat}
theorem MemAt.len (h : MemAt w q g n c bs) : bs.length = n := by have := h.row.1; rw [u8s_len] at this; omega
theorem MemAt.frx {S : Nat → Prop} (h : MemAt w q g n c bs) (r : Fr S w w') (h1 : ¬ S q) (h2 : ¬ S g) : MemAt w' q g n c bs :=
  ⟨r.heap h.obj h1, owns_fr h.row r (fun k hk => by cases hk; exact h2), h.lt⟩
theorem MemAt.fr (h : MemAt w q g n c bs) (r : Fr no w w') : MemAt w' q g n c bs := h.frx r (by simp) (by simp)
theorem MemAt.reads (h : MemAt w q g n c bs) : Reads w (.slice (some ⟨g, 0, none⟩) n c) 1 n (u8s bs) := owns_reads h.row
theorem MemAt.block (h : MemAt w q g n c bs) : ∃ cur : Array Value, w.heap[g]? = some (.cells cur 5 (0, 0)) ∧ n ≤ cur.size ∧ cur.toList.take n = u8s bs := by
  rcases h.row.2 with ⟨hh, -⟩ | ⟨g', cap, cur, hh, hb, hg, h1, h2, h3, h4⟩
  · cases hh
  · injection hh with e1 e2 e3
    injection e1 with e1
    injection e1 with e1 e4 e5
    subst e1
    exact ⟨cur, hg, by omega, by simpa using h4⟩
theorem MemAt.ne (h : MemAt w q g n c bs) : q ≠ g := by
  obtain ⟨cur, hg, -⟩ := h.block
  exact block_ne h.obj hg (by decide)

theorem memnone_ok (w : World) (h : MemAt w q g n c bs) : Calls Tryz.prog 132 #[.pointer (some ⟨q, 0, none⟩)] w fun e w' => e = .returned (.bool false) ∧ w = w' := by
  have c0 := cell_of_heap (o := 0) h.obj rfl
  clear h
  go_enter Tryz.func132, Tryz.ntmps132
  go_wp2_with fail
  go_ret
  exact ⟨rfl, rfl⟩
theorem msized_ok (w : World) (k : Nat) (hk : k = 1 ∨ k = 8) : Calls Tryz.prog 73 #[.int .i64 k] w fun e w' => e = .returned (.bool true) ∧ w = w' := by
  rcases hk with rfl | rfl
  all_goals
    go_enter Tryz.func73, Tryz.ntmps73
    go_wp2_with fail
    go_ret
    exact ⟨rfl, rfl⟩
def CutR (g n a k : Nat) (e : Ending) : Prop := (inB n a k = false ∧ e = .returned (.tuple #[.slice none 0 0, .bool false])) ∨ (inB n a k = true ∧ ∃ o, (0 < k → o = a) ∧ e = .returned (.tuple #[.slice (some ⟨g, o, none⟩) k k, .bool true]))
theorem cut_ok (w : World) (a k : Nat) (h : MemAt w q g n c bs) (ha : a < 18446744073709551616) (hk : k ≤ 65536) (hn : n ≤ 65536) :
    Calls Tryz.prog 133 #[.pointer (some ⟨q, 0, none⟩), .int .u64 a, .int .i64 k] w fun e w' => CutR g n a k e ∧ w = w' := by
  have c0 := cell_of_heap (o := 0) h.obj rfl
  have hcn := cap_of_reads h.reads
  have hw1 : IntKind.u64.wrap (n : Int) = n := by rw [IntKind.wrap_u64]; omega
  have hw2 : IntKind.u64.wrap (k : Int) = k := by rw [IntKind.wrap_u64]; omega
  clear h
  by_cases h1 : a < 16
  · have h1' : (a : Int) < 16 := by omega
    have hin : CutR g n a k (.returned (.tuple #[.slice none 0 0, .bool false])) := .inl ⟨by unfold inB; exact decide_eq_false (by omega), rfl⟩
    have HIN := Lib.hid hin
    clear hin
    go_enter Tryz.func133, Tryz.ntmps133
    go_wp2_with fail
    go_ret2
    exact ⟨HIN.out, rfl⟩
  have h1' : ¬ (a : Int) < 16 := by omega
  by_cases h2 : n < a
  · have h2' : (a : Int) > n := by omega
    have hin : CutR g n a k (.returned (.tuple #[.slice none 0 0, .bool false])) := .inl ⟨by unfold inB; exact decide_eq_false (by omega), rfl⟩
    have HIN := Lib.hid hin
    clear hin
    go_enter Tryz.func133, Tryz.ntmps133
    go_wp2_with fail
    go_ret2
    exact ⟨HIN.out, rfl⟩
  have h2' : ¬ (a : Int) > n := by omega
  have hw3 : IntKind.u64.wrap ((n : Int) - a) = ((n - a : Nat) : Int) := by rw [IntKind.wrap_u64]; omega
  by_cases h3 : n - a < k
  · have h3' : (k : Int) > ((n - a : Nat) : Int) := by omega
    have hin : CutR g n a k (.returned (.tuple #[.slice none 0 0, .bool false])) := .inl ⟨by unfold inB; exact decide_eq_false (by omega), rfl⟩
    have HIN := Lib.hid hin
    clear hin
    go_enter Tryz.func133, Tryz.ntmps133
    go_wp2_with fail
    go_ret2
    exact ⟨HIN.out, rfl⟩
  have h3' : ¬ (k : Int) > ((n - a : Nat) : Int) := by omega
  have hw4 : IntKind.u64.wrap ((a : Int) + k) = ((a + k : Nat) : Int) := by rw [IntKind.wrap_u64]; omega
  have hak : a + k ≤ c := by omega
  have hin : ∀ o, (0 < k → o = a) → CutR g n a k (.returned (.tuple #[.slice (some ⟨g, o, none⟩) k k, .bool true])) := fun o ho => .inr ⟨by unfold inB; exact decide_eq_true (by omega), o, ho, rfl⟩
  have HIN := Lib.hid hin
  clear hin
  go_enter Tryz.func133, Tryz.ntmps133
  go_wp2_with fail
  · go_ret2
    have HQ := HIN.out 0 (by omega)
    rw [‹k = 0›] at HQ
    exact ⟨HQ, rfl⟩
  · go_ret2
    exact ⟨HIN.out _ (fun _ => rfl), rfl⟩
end

end Go.Proofs.YtihnkijeefkefaaGreat

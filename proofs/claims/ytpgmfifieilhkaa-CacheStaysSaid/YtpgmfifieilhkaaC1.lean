import Derived.Test.YtpgmfifieilhkaaOnce
import Derived.Test.YtpgmfifieilhkaaLex
namespace Go.Proofs.Ytpgmfifieilhkaa
open Go.RowKit

attribute [local go_sem] Program.isFuncB Program.isSliceB

def flat (P : List (Nat × List Nat)) : List Nat := P.flatMap (·.2)
def fromOf (P : List (Nat × List Nat)) (i : Nat) : Nat := (flat (P.take i)).length
def u32s (l : List Nat) : List Value := l.map fun (n : Nat) => .int .u32 n

/-- where a cache lies -/
structure CS where
  b : Nat
  g : Nat
  cv : Value
  lv : Value
  lp : Nat → Nat

def foot (s : CS) (P : List (Nat × List Nat)) (k : Nat) : Prop := k = s.b ∨ k = s.g ∨ s.cv.ownBlock = some k ∨ s.lv.ownBlock = some k ∨ ∃ x ∈ P, k = s.lp x.1

structure POk (words : Nat) (P : List (Nat × List Nat)) : Prop where
  nd : (P.map (·.1)).Nodup
  lt : ∀ x ∈ P, x.1 < 64 ∧ x.2 ≠ [] ∧ ∀ n ∈ x.2, n < 4294967296
  room : (flat P).length ≤ words
  few : words ≤ 65536

def ofCell (s : CS) (P : List (Nat × List Nat)) (f : Nat) : Value := if f ∈ P.map (·.1) then .pointer (some ⟨s.lp f, 0, none⟩) else .pointer none

structure CacheAt (w : World) (words : Nat) (P : List (Nat × List Nat)) (s : CS) : Prop where
  obj : w.heap[s.b]? = some (.cells #[.bool true, .int .i64 words, .int .u32 1, .int .i32 0, .int .u32 0, s.cv, .pointer (some ⟨s.g, 0, none⟩), s.lv] 64 (0, 0))
  code : w.ownsRow 0 52 1 s.cv (flat P).length (u32s (flat P))
  lies : w.ownsRow 0 73 1 s.lv P.length (P.map fun x => .pointer (some ⟨s.lp x.1, 0, none⟩))
  of_ : ∃ c, w.heap[s.g]? = some (.cells c 86 (0, 0)) ∧ ∀ f, f < 64 → c[f]? = some (ofCell s P f)
  lie : ∀ i (h : i < P.length), w.heap[s.lp P[i].1]? = some (.cells #[.int .i64 P[i].1, .int .i64 (fromOf P i), .int .i64 P[i].2.length] 75 (0, 0))
  ok : POk words P

structure Raw (w : World) (words : Nat) (s : CS) : Prop where
  obj : w.heap[s.b]? = some (.cells #[.bool true, .int .i64 words, .int .u32 0, .int .i32 0, .int .u32 0, .slice none 0 0, .pointer none, .slice none 0 0] 64 (0, 0))
  g : s.g = s.b
  cv : s.cv = .slice none 0 0
  lv : s.lv = .slice none 0 0
  few : words ≤ 65536

def CSt (w : World) (words : Nat) (P : List (Nat × List Nat)) (s : CS) : Prop := CacheAt w words P s ∨ (Raw w words s ∧ P = [])

/-- from a state to a state -/
structure CTo (w w' : World) (words : Nat) (P : List (Nat × List Nat)) (s : CS) (P' : List (Nat × List Nat)) (s' : CS) : Prop where
  at_ : CacheAt w' words P' s'
  b : s'.b = s.b
  ft : ∀ k, foot s' P' k → foot s P k ∨ w.heap.size ≤ k
  fr : Fr (foot s P) w w'

variable {w w' : World} {words : Nat} {P : List (Nat × List Nat)} {s : CS}

theorem owns_lt {base : Nat} {e : TypeId} {size : Nat} {v : Value} {n : Nat} {xs : List Value} (h : w.ownsRow base e size v n xs) : ∀ k, v.ownBlock = some k → k < w.heap.size := fun k hk => (h.lt k hk).2

theorem CacheAt.lt (h : CacheAt w words P s) : ∀ k, foot s P k → k < w.heap.size := by
  intro k hk
  rcases hk with rfl | rfl | hk | hk | ⟨x, hx, rfl⟩
  · exact (Array.getElem?_eq_some_iff.1 h.obj).1
  · obtain ⟨c, hc, _⟩ := h.of_; exact (Array.getElem?_eq_some_iff.1 hc).1
  · exact owns_lt h.code k hk
  · exact owns_lt h.lies k hk
  · obtain ⟨i, hi, rfl⟩ := List.getElem_of_mem hx
    exact (Array.getElem?_eq_some_iff.1 (h.lie i hi)).1

theorem CacheAt.fr {S : Nat → Prop} (h : CacheAt w words P s) (hf : Fr S w w') (hS : ∀ k, foot s P k → ¬ S k) : CacheAt w' words P s := by
  refine ⟨hf.heap h.obj (hS _ (.inl rfl)), owns_fr h.code hf (fun k hk => hS k (.inr (.inr (.inl hk)))), owns_fr h.lies hf (fun k hk => hS k (.inr (.inr (.inr (.inl hk))))), ?_, ?_, h.ok⟩
  · obtain ⟨c, hc, hc'⟩ := h.of_
    exact ⟨c, hf.heap hc (hS _ (.inr (.inl rfl))), hc'⟩
  · intro i hi
    exact hf.heap (h.lie i hi) (hS _ (.inr (.inr (.inr (.inr ⟨P[i], List.getElem_mem hi, rfl⟩)))))

theorem CSt.fr {S : Nat → Prop} (h : CSt w words P s) (hf : Fr S w w') (hS : ∀ k, foot s P k → ¬ S k) : CSt w' words P s := by
  rcases h with h | ⟨h, hP⟩
  · exact .inl (h.fr hf hS)
  · exact .inr ⟨⟨hf.heap h.obj (hS _ (.inl rfl)), h.g, h.cv, h.lv, h.few⟩, hP⟩

theorem CSt.lt (h : CSt w words P s) : ∀ k, foot s P k → k < w.heap.size := by
  rcases h with h | ⟨h, rfl⟩
  · exact h.lt
  · intro k hk
    have hb := (Array.getElem?_eq_some_iff.1 h.obj).1
    rcases hk with rfl | rfl | hk | hk | ⟨x, hx, _⟩
    · exact hb
    · rw [h.g]; exact hb
    · rw [h.cv] at hk; cases hk
    · rw [h.lv] at hk; cases hk
    · cases hx

theorem run_makeFuncAny (fn : Fn) (first cap : Array Value) (w : World) : (Instr.makeFunc fn first cap).run Try.prog w = .ok (.func fn first cap) w := rfl

theorem Try.info52 : (Try.prog.info? 52).map (fun i => (i.zero, i.size, i.bytes)) = some (some (.int .u32 0), 1, 4) := by kernel_rfl
theorem Try.info73 : (Try.prog.info? 73).map (fun i => (i.zero, i.size, i.bytes)) = some (some (.pointer none), 1, 8) := by kernel_rfl

def z86 : Array Value := Array.replicate 64 (.pointer none)
theorem Try.zero86 (w : World) : (zeroValue 86).run Try.prog w = .ok (.agg z86) w := by kernel_rfl

set_option maxHeartbeats 1000000 in
theorem laid_any (b pl words : Nat) (w : World) (hw : words ≤ 65536) (hne : pl ≠ b) (hp : w.heap[pl]? = some (.cells #[.pointer (some ⟨b, 0, none⟩)] 27 (0, 0)))
    (ho : w.heap[b]? = some (.cells #[.bool true, .int .i64 words, .int .u32 0, .int .i32 1, .int .u32 0, .slice none 0 0, .pointer none, .slice none 0 0] 64 (0, 0))) :
    Calls Try.prog 35 #[.pointer (some ⟨pl, 0, none⟩)] w fun e w' => e = .returned (.tuple #[]) ∧ ∃ cv g,
      w'.heap[b]? = some (.cells #[.bool true, .int .i64 words, .int .u32 0, .int .i32 1, .int .u32 0, cv, .pointer (some ⟨g, 0, none⟩), .slice none 0 0] 64 (0, 0)) ∧
      w'.ownsRow 0 52 1 cv 0 [] ∧ w'.heap[g]? = some (.cells z86 86 (0, 0)) ∧ w.heap.size ≤ g ∧ (∀ k, cv.ownBlock = some k → w.heap.size ≤ k) ∧ Fr (only [b]) w w' := by
  have c0 : w.drew.cell? ⟨pl, 0, none⟩ = some (.pointer (some ⟨b, 0, none⟩)) := cell_of_heap hp rfl
  have c1 : w.drew.cell? ⟨b, 1, none⟩ = some (.int .i64 words) := cell_of_heap ho rfl
  obtain ⟨i0, hi, hz0, hz1, hz2⟩ := info_parts Try.info52
  obtain ⟨w1, hmk, hown, hgrow⟩ := run_make_own (P := Try.prog) w.drew w.heap.size 23 52 i0 (.int .u32 0) 1 Try.underlying23 hi hz0 hz1 .i64 .i64 words (by rw [hz2]; omega) (by unfold maxLen; omega) (Nat.le_refl _)
  go_enter Try.func35, Try.ntmps35
  go_wp2_with fail
  have r1 : Fr no w w1 := ((Fr.refl no w).drew).grown hgrow (fun k hk => by cases hk)
  have hlt := (Array.getElem?_eq_some_iff.1 ho).1
  have ho1 := r1.heap ho (by simp)
  have hp1 := r1.heap hp (by simp)
  have e5 : w1.cell? ⟨b, 5, none⟩ = some (.slice none 0 0) := cell_of_heap ho1 rfl
  have z5 : w1.frozen? ⟨b, 5, none⟩ = false := frozen_of_heap ho1
  refine Lex.region [5, 8] [9] (by kernel_rfl) (by kernel_rfl) ?_
  refine Lex.opens (fun w' => w'.cell? ⟨pl, 0, none⟩ = some (.pointer (some ⟨b, 0, none⟩)) ∧ w'.cell? ⟨b, 1, none⟩ = some (.int .i64 words)) (⟨c0, c1⟩) ?_
  repeat (first
    | (refine Lex.skips (by rfl) ?_; (try simp only [Act.put, List.setIfInBounds_toArray, List.set_cons_zero, List.set_cons_succ]))
    | (refine Lex.quiet (v := ?_) (by rfl) (by rfl) ?_ ?_; rotate_left; (focus (intro w' hS'; go_simp; try rfl)); (try simp only [Act.put, List.setIfInBounds_toArray, List.set_cons_zero, List.set_cons_succ])))
  refine Lex.loud (by rfl) (by rfl) ?_
  intro K' hK'
  go_simp
  refine hK' _ _ (⟨r1.cell (cell_of_heap hp rfl) (by simp), r1.cell (cell_of_heap ho rfl) (by simp)⟩) ?_
  clear hK'
  try simp only [Act.put, List.setIfInBounds_toArray, List.set_cons_zero, List.set_cons_succ]
  clear hmk c0 c1
  repeat (first
    | (refine Lex.skips (by rfl) ?_; (try simp only [Act.put, List.setIfInBounds_toArray, List.set_cons_zero, List.set_cons_succ]))
    | (refine Lex.quiet (v := ?_) (by rfl) (by rfl) ?_ ?_; rotate_left; (focus (intro w' hS'; go_simp; try rfl)); (try simp only [Act.put, List.setIfInBounds_toArray, List.set_cons_zero, List.set_cons_succ])))
  refine Lex.loud (by rfl) (by rfl) ?_
  intro K' hK'
  go_simp
  have rs : Fr (only [b]) w1 (w1.setCell ⟨b, 5, none⟩ (.slice (some ⟨w.heap.size, 0, none⟩) 0 words)) := (Fr.refl _ _).setCell _ _ (.inl (by simp))
  have ho2 := heap_setCell (o := 5) (v := .slice (some ⟨w.heap.size, 0, none⟩) 0 words) ho1
  have hp2 := rs.heap hp1 (by simp; omega)
  have hown2 := owns_fr hown rs (fun k hk => by cases hk; simp; omega)
  have r2 : Fr (only [b]) w (w1.setCell ⟨b, 5, none⟩ (.slice (some ⟨w.heap.size, 0, none⟩) 0 words)) := (r1.to).trans rs
  simp only [List.setIfInBounds_toArray, List.set_cons_zero, List.set_cons_succ] at ho2
  refine hK' _ _ (⟨cell_of_heap hp2 rfl, cell_of_heap ho2 rfl⟩) ?_
  clear hK'
  try simp only [Act.put, List.setIfInBounds_toArray, List.set_cons_zero, List.set_cons_succ]
  clear e5 z5 ho1 hp1 hown rs hgrow
  repeat (first
    | (refine Lex.skips (by rfl) ?_; (try simp only [Act.put, List.setIfInBounds_toArray, List.set_cons_zero, List.set_cons_succ]))
    | (refine Lex.quiet (v := ?_) (by rfl) (by rfl) ?_ ?_; rotate_left; (focus (intro w' hS'; go_simp; try rfl)); (try simp only [Act.put, List.setIfInBounds_toArray, List.set_cons_zero, List.set_cons_succ])))
  refine Lex.done ?_
  refine Lex.ends ?_
  generalize w1.setCell ⟨b, 5, none⟩ (.slice (some ⟨w.heap.size, 0, none⟩) 0 words) = w2 at ho2 hp2 hown2 r2 ⊢
  have hz := Try.zero86
  have e0 : w2.cell? ⟨pl, 0, none⟩ = some (.pointer (some ⟨b, 0, none⟩)) := cell_of_heap hp2 rfl
  have hs2 := r2.size
  have ho3 : (w2.alloc (.cells z86 86)).heap[b]? = some _ := ((Fr.refl no w2).alloc (.cells z86 86)).heap ho2 (by simp)
  have e6 : (w2.alloc (.cells z86 86)).cell? ⟨b, 6, none⟩ = some (.pointer none) := cell_of_heap ho3 rfl
  have z6 : (w2.alloc (.cells z86 86)).frozen? ⟨b, 6, none⟩ = false := frozen_of_heap ho3
  have H3 := Lib.hid ho3
  clear ho3
  go_wp2_with fail
  go_end0
  refine ⟨rfl, .slice (some ⟨w.heap.size, 0, none⟩) 0 words, w2.heap.size, ?_, ?_, ?_, hs2, ?_, ?_⟩
  · have := heap_setCell (o := 6) (v := .pointer (some ⟨w2.heap.size, 0, none⟩)) H3.out
    simpa using this
  · exact owns_base (owns_fr hown2 (((Fr.refl (only [b]) w2).alloc (.cells z86 86)).setCell ⟨b, 6, none⟩ (.pointer (some ⟨w2.heap.size, 0, none⟩)) (.inl (by simp))) (fun k hk => by cases hk; simp; omega)) (fun _ _ => Nat.zero_le _)
  · rw [Below.heap_setCell _ _ _ _ (by dsimp only; omega)]; exact heap_new _ _
  · intro k hk; cases hk; exact Nat.le_refl _
  · exact (r2.alloc _).setCell _ _ (.inl (by simp))

end Go.Proofs.Ytpgmfifieilhkaa

/- container/heap over the numbers that wait. -/
import Derived.Test.YtofahdjnejodjaaGreatS1
import Derived.Handy
set_option linter.unusedSimpArgs false
set_option linter.unusedVariables false
set_option linter.unusedSectionVars false
set_option linter.unnecessarySimpa false
namespace Go.Proofs.YtofahdjnejodjaaGreat
open Go.RowKit Go.Flow

attribute [local go_sem] Program.isFuncB Program.isSliceB

variable {w w' w'' w0 : World}

/-- a heap: a cell that holds a row of the call's own, in another block -/
structure QAt (w : World) (B sb : Nat) (st : List Nat) : Prop where
  at' : ∃ x : Value, w.heap[sb]? = some (.cells #[x] 68 (0, 0)) ∧ w.ownsRow B 3 1 x st.length (ints (nats st)) ∧ x.ownBlock ≠ some sb
theorem QAt.frx {S : Nat → Prop} {B sb : Nat} {st : List Nat} (h : QAt w B sb st) (r : Fr S w w') (h1 : ¬ S sb) (h2 : ∀ k, B ≤ k → k ≠ sb → ¬ S k) : QAt w' B sb st := by
  obtain ⟨x, h3, h4, h5⟩ := h.at'
  exact ⟨x, r.heap h3 h1, owns_fr h4 r (fun k hk => h2 k (h4.lt k hk).1 (fun e => h5 (e ▸ hk))), h5⟩
def hI (sb : Nat) : Value := .iface 67 (.pointer (some ⟨sb, 0, none⟩))
def numI (i : Nat) : Value := .iface 3 (.int .i64 i)

theorem wpop_ok (w : World) (B sb : Nat) (st : List Nat) (i : Nat) (h : QAt w B sb (st ++ [i])) (hl : st.length ≤ 100000) :
    Calls Tryz.prog 175 #[.pointer (some ⟨sb, 0, none⟩)] w fun e w' => e = .returned (numI i) ∧ QAt w' B sb st ∧ Fr (only [sb]) w w' := by
  obtain ⟨x, h3, h4, h5⟩ := h.at'
  have h6 := h4
  rcases h4.2 with ⟨_, h0⟩ | ⟨g, cap, cur, rfl, hb, hg, h1, h2, hz, ht⟩
  · simp at h0
  · rw [List.length_append, List.length_singleton] at h1 h3
    have c0 : w.cell? ⟨sb, 0, none⟩ = some (.slice (some ⟨g, 0, none⟩) (st.length + 1) cap) := cell_of_heap h3 rfl
    have f0 : w.frozen? ⟨sb, 0, none⟩ = false := frozen_of_heap h3
    have cg : w.cell? ⟨g, st.length, none⟩ = some (.int .i64 i) := by
      have := h6.cells rfl st.length (.int .i64 i) (by simp [ints, nats])
      rw [Addr.add_lit, Nat.zero_add] at this
      exact this
    have r1 : Fr (only [sb]) w (w.setCell ⟨sb, 0, none⟩ (.slice (some ⟨g, 0, none⟩) st.length cap)) := (Fr.refl _ w).setCell _ _ (.inl (by simp))
    have HQ : Hid (QAt (w.setCell ⟨sb, 0, none⟩ (.slice (some ⟨g, 0, none⟩) st.length cap)) B sb st) := Lib.hid ⟨_, by rw [heap_setCell h3]; rfl, own_shorter (n := st.length + 1) (a := nats st) (b := [(i : Int)]) (by
      have := owns_fr h6 r1 (fun k hk => by have : k ≠ sb := fun e => h5 (e ▸ hk); simpa using this)
      simpa [nats, List.length_append] using this) (nats_len st), h5⟩
    have R1 := Lib.hid r1
    have hcap : st.length + 1 ≤ cap := h1
    have hcm : cap ≤ 9223372036854775807 := by unfold maxLen at h2; omega
    have e1 : (st.length : Int) + 1 - 1 = st.length := by omega
    clear h h3 h4 h6 hg hz ht h1 h2 r1
    go_enter Tryz.func175, Tryz.ntmps175
    go_wp2_with fail
    go_ret
    exact ⟨rfl, HQ.out, R1.out⟩

/-- which function a method on a pointer is: a value's own, of what the pointer leads to -/
theorem load_slice (w : World) (sb n c : Nat) (a : Option Addr) (h : w.cell? ⟨sb, 0, none⟩ = some (.slice a n c)) : (loadVar 68 ⟨sb, 0, none⟩).run Tryz.prog w = .ok (.slice a n c) w := by
  simp [loadVar, go_sem, h]
set_option maxRecDepth 10000 in
theorem hm_len (n0 : Nat) (hn : n0 = Tryz.prog.types.size + 100) (w : World) (sb n c : Nat) (a : Option Addr) (h : w.cell? ⟨sb, 0, none⟩ = some (.slice a n c)) : (method n0 67 (.pointer (some ⟨sb, 0, none⟩)) "Len").run Tryz.prog w = .ok (37, .slice a n c) w := by
  subst hn
  have h1 : (method (Tryz.prog.types.size + 100) 67 (.pointer (some ⟨sb, 0, none⟩)) "Len").run Tryz.prog w = (do let x ← loadVar 68 ⟨sb, 0, none⟩; pure (37, x)).run Tryz.prog w := by kernel_rfl
  rw [h1, Sem.run_bind, load_slice w sb n c a h]
  rfl
set_option maxRecDepth 10000 in
theorem hm_less (n0 : Nat) (hn : n0 = Tryz.prog.types.size + 100) (w : World) (sb n c : Nat) (a : Option Addr) (h : w.cell? ⟨sb, 0, none⟩ = some (.slice a n c)) : (method n0 67 (.pointer (some ⟨sb, 0, none⟩)) "Less").run Tryz.prog w = .ok (174, .slice a n c) w := by
  subst hn
  have h1 : (method (Tryz.prog.types.size + 100) 67 (.pointer (some ⟨sb, 0, none⟩)) "Less").run Tryz.prog w = (do let x ← loadVar 68 ⟨sb, 0, none⟩; pure (174, x)).run Tryz.prog w := by kernel_rfl
  rw [h1, Sem.run_bind, load_slice w sb n c a h]
  rfl
set_option maxRecDepth 10000 in
theorem hm_swap (n0 : Nat) (hn : n0 = Tryz.prog.types.size + 100) (w : World) (sb n c : Nat) (a : Option Addr) (h : w.cell? ⟨sb, 0, none⟩ = some (.slice a n c)) : (method n0 67 (.pointer (some ⟨sb, 0, none⟩)) "Swap").run Tryz.prog w = .ok (177, .slice a n c) w := by
  subst hn
  have h1 : (method (Tryz.prog.types.size + 100) 67 (.pointer (some ⟨sb, 0, none⟩)) "Swap").run Tryz.prog w = (do let x ← loadVar 68 ⟨sb, 0, none⟩; pure (177, x)).run Tryz.prog w := by kernel_rfl
  rw [h1, Sem.run_bind, load_slice w sb n c a h]
  rfl

set_option maxRecDepth 100000 in
set_option maxHeartbeats 8000000 in
theorem wpush_ok (w : World) (B sb : Nat) (st : List Nat) (i : Nat) (h : QAt w B sb st) (hB : B ≤ w.heap.size) (hl : st.length ≤ 100000) :
    Calls Tryz.prog 176 #[.pointer (some ⟨sb, 0, none⟩), numI i] w fun e w' => e = .returned (.tuple #[]) ∧ QAt w' B sb (st ++ [i]) ∧ Fr (fun k => k = sb ∨ (B ≤ k ∧ k ≠ sb)) w w' := by
  obtain ⟨x, hx1, hx2, hx3⟩ := h.at'
  obtain ⟨xa, xc, rfl⟩ := owns_shape hx2
  have HX1 := Lib.hid hx1
  have HX2 := Lib.hid hx2
  have HX3 := Lib.hid hx3
  have c1 : w.cell? ⟨sb, 0, none⟩ = some (.slice xa st.length xc) := cell_of_heap hx1 rfl
  have hsb : sb < w.heap.size := (Array.getElem?_eq_some_iff.1 hx1).1
  clear h hx1 hx2 hx3
  unfold numI
  go_enter Tryz.func176, Tryz.ntmps176
  refine Lex.region [6, 7, 9] [8, 2] (by kernel_rfl) (by kernel_rfl) ?_
  refine Lex.opens (fun w' => w'.cell? ⟨sb, 0, none⟩ = some (.slice xa st.length xc)) (c1) ?_
  repeat (first
    | (refine Lex.skips (by rfl) ?_; (try simp only [Act.put, List.setIfInBounds_toArray, List.set_cons_zero, List.set_cons_succ]))
    | (refine Lex.quiet (v := ?_) (by rfl) (by rfl) ?_ ?_; rotate_left; (focus (intro w' hS'; go_simp; try rfl)); (try simp only [Act.put, List.setIfInBounds_toArray, List.set_cons_zero, List.set_cons_succ])))
  refine Lex.loud (by rfl) (by rfl) ?_
  intro K' hK'
  go_simp
  have q2 : Fr no w (w.alloc (.cells #[.int .i64 i] 3)).drew := ((Fr.refl _ w).alloc _).drew
  have HO2 := Lib.hid (owns_fr HX2.out q2 (fun k hk => by simp))
  have HX2' := Lib.hid (q2.heap HX1.out (by simp))
  have HR2 : Hid (Reads (w.alloc (.cells #[.int .i64 i] 3)).drew (.slice (some ⟨w.heap.size, 0, none⟩) 1 1) 1 1 (ints (nats [i]))) := Lib.hid ((owns_reads (owns_row w [.int .i64 i] 3 (by simp))).fr ((Fr.refl no _).drew) (by simp))
  have c2 := q2.cell c1 (by simp)
  have hz2 : B ≤ (w.alloc (.cells #[.int .i64 i] 3)).drew.heap.size := by simp; omega
  have HZ2 : Hid ((w.alloc (.cells #[.int .i64 i] 3)).drew.heap.size = w.heap.size + 1) := Lib.hid (by simp)
  have R2 := Lib.hid q2
  clear q2
  generalize hbb : w.heap.size = nb at *
  generalize (w.alloc (.cells #[.int .i64 i] 3)).drew = w2 at *
  refine hK' _ _ (c2) ?_
  clear hK'
  try simp only [Act.put, List.setIfInBounds_toArray, List.set_cons_zero, List.set_cons_succ]
  clear c1
  repeat (first
    | (refine Lex.skips (by rfl) ?_; (try simp only [Act.put, List.setIfInBounds_toArray, List.set_cons_zero, List.set_cons_succ]))
    | (refine Lex.quiet (v := ?_) (by rfl) (by rfl) ?_ ?_; rotate_left; (focus (intro w' hS'; go_simp; try rfl)); (try simp only [Act.put, List.setIfInBounds_toArray, List.set_cons_zero, List.set_cons_succ])))
  refine Lex.loud (by rfl) (by rfl) ?_
  intro K' hK'
  refine wp_append_at (.tmp 7) (.tmp 10) 68 rfl B 3 (.int .i64 0) 1 8 Tryz.underlying68 Tryz.infoInt rfl (by decide) (.slice xa st.length xc) st.length (ints (nats st)) (by simp [Act.eval]) HO2.out 1 (ints (nats [i])) HR2.out (ints_one' _) (by unfold maxLen; omega) (by omega) hz2 ?_
  intro ga gc w8 ho hg hb
  have r8 := (Fr.refl (fun k => (Value.slice xa st.length xc).ownBlock = some k) w2).grown hg (fun k hk => .inl hk)
  have HX8 := Lib.hid (r8.heap HX2'.out HX3.out)
  have x1 : w8.cell? ⟨sb, 0, none⟩ = some (.slice xa st.length xc) := cell_of_heap HX8.out rfl
  have f8 : w8.frozen? ⟨sb, 0, none⟩ = false := frozen_of_heap HX8.out
  have R8 := Lib.hid (Fr.trans (R2.out.mono (T := fun k => k = sb ∨ (B ≤ k ∧ k ≠ sb)) (fun k hk _ => by simp at hk)) (r8.mono (T := fun k => k = sb ∨ (B ≤ k ∧ k ≠ sb)) (fun k hk _ => .inr ⟨(HX2.out.lt k hk).1, fun e => HX3.out (e ▸ hk)⟩)))
  have HNE : Hid ((Value.slice ga (st.length + 1) gc).ownBlock ≠ some sb) := Lib.hid (fun h => by
    rcases hb _ h with h | h
    · exact HX3.out h
    · have := HZ2.out; omega)
  have HO8 := Lib.hid ho
  clear r8 ho hg hb c2 HO2 HX2' HR2 R2
  refine hK' _ _ (x1) ?_
  clear hK'
  try simp only [Act.put, List.setIfInBounds_toArray, List.set_cons_zero, List.set_cons_succ]
  refine Lex.done ?_
  refine Lex.opens (fun _ => True) (trivial) ?_
  repeat (first
    | (refine Lex.skips (by rfl) ?_; (try simp only [Act.put, List.setIfInBounds_toArray, List.set_cons_zero, List.set_cons_succ]))
    | (refine Lex.quiet (v := ?_) (by rfl) (by rfl) ?_ ?_; rotate_left; (focus (intro w' hS'; go_simp; try rfl)); (try simp only [Act.put, List.setIfInBounds_toArray, List.set_cons_zero, List.set_cons_succ])))
  refine Lex.loud (by rfl) (by rfl) ?_
  intro K' hK'
  go_simp
  refine hK' _ _ (trivial) ?_
  clear hK'
  try simp only [Act.put, List.setIfInBounds_toArray, List.set_cons_zero, List.set_cons_succ]
  refine Lex.done ?_
  refine Lex.ends ?_
  have r9 : Fr (only [sb]) w8 (w8.setCell ⟨sb, 0, none⟩ (.slice ga (st.length + 1) gc)) := (Fr.refl _ w8).setCell _ _ (.inl (by simp))
  have HST9 : Hid (QAt (w8.setCell ⟨sb, 0, none⟩ (.slice ga (st.length + 1) gc)) B sb (st ++ [i])) := Lib.hid ⟨_, by rw [heap_setCell HX8.out]; rfl, by
    rw [List.length_append]
    have := owns_fr HO8.out r9 (fun k hk => by have h1 : k ≠ sb := fun e => HNE.out (e ▸ hk); simpa using h1)
    simpa [ints, nats] using this, HNE.out⟩
  have R9 := Lib.hid (Fr.trans R8.out (r9.mono (T := fun k => k = sb ∨ (B ≤ k ∧ k ≠ sb)) (fun k hk _ => .inl (by simpa using hk))))
  clear r9 x1 f8 HO8 R8 HX8 HNE HX3 HX1 HX2
  generalize w8.setCell ⟨sb, 0, none⟩ (.slice ga (st.length + 1) gc) = w9 at *
  go_wp2_with fail
  exact ⟨rfl, .tuple #[], by simp [results], rfl, HST9.out, R9.out⟩

end Go.Proofs.YtofahdjnejodjaaGreat

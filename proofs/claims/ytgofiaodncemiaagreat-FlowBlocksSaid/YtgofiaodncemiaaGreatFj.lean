/- law10's awake. -/
import Derived.Test.YtgofiaodncemiaaGreatFi
set_option linter.unusedSimpArgs false
set_option linter.unusedVariables false
set_option linter.unusedSectionVars false
set_option linter.unnecessarySimpa false
namespace Go.Proofs.YtgofiaodncemiaaGreat
open Go.RowKit Go.Flow

attribute [local go_sem] Program.isFuncB Program.isSliceB

variable {w w' w'' w0 : World}

theorem hkeep {b : Nat} {o : Obj} (h : w.heap[b]? = some o) (o' : Obj) : (w.alloc o').heap[b]? = some o := ((Fr.refl no w).alloc o').heap h (by simp)
theorem n0 : nx (fis sixL) 0 = [1] := by kernel_rfl
theorem n1 : nx (fis sixL) 1 = [2] := by kernel_rfl
theorem n2 : nx (fis sixL) 2 = [3] := by kernel_rfl
theorem n3 : nx (fis sixL) 3 = [0] := by kernel_rfl
theorem six_reach (k : Nat) : Flow.Reach (nx (fis sixL)) k ↔ k < 4 := by
  constructor
  · refine reach_least (S := fun k => k < 4) (by decide) (fun k x hk hx => ?_)
    have h : k = 0 ∨ k = 1 ∨ k = 2 ∨ k = 3 := by omega
    rcases h with rfl | rfl | rfl | rfl
    · rw [n0] at hx; simp at hx; omega
    · rw [n1] at hx; simp at hx; omega
    · rw [n2] at hx; simp at hx; omega
    · rw [n3] at hx; simp at hx; omega
  · intro hk
    have r0 : Flow.Reach (nx (fis sixL)) 0 := Flow.Reach.zero
    have r1 : Flow.Reach (nx (fis sixL)) 1 := r0.step (by rw [n0]; simp)
    have r2 : Flow.Reach (nx (fis sixL)) 2 := r1.step (by rw [n1]; simp)
    have r3 : Flow.Reach (nx (fis sixL)) 3 := r2.step (by rw [n2]; simp)
    have h : k = 0 ∨ k = 1 ∨ k = 2 ∨ k = 3 := by omega
    rcases h with rfl | rfl | rfl | rfl <;> assumption
theorem bool_ext {a b : List Bool} (hl : a.length = b.length) (h : ∀ k : Nat, a[k]? = some true ↔ b[k]? = some true) : a = b := by
  apply List.ext_getElem hl
  intro k h1 h2
  have := h k
  rw [List.getElem?_eq_getElem h1, List.getElem?_eq_getElem h2] at this
  cases h3 : a[k] <;> cases h4 : b[k] <;> simp_all
theorem six_ob {ob : List Bool} (hl : ob.length = (fis sixL).length) (h : ∀ k, ob[k]? = some true ↔ Flow.Reach (nx (fis sixL)) k) : ob = [true, true, true, true, false, false] := by
  refine bool_ext hl (fun k => ?_)
  rw [h k, six_reach k]
  by_cases h6 : k < 6
  · have h : k = 0 ∨ k = 1 ∨ k = 2 ∨ k = 3 ∨ k = 4 ∨ k = 5 := by omega
    rcases h with rfl | rfl | rfl | rfl | rfl | rfl <;> simp
  · rw [List.getElem?_eq_none (by simp; omega)]
    simp; omega

/-- a row of one number -/
theorem reads_num {b : Nat} {x : Int} {t : TypeId} (h : w.heap[b]? = some (.cells #[.int .i64 x] t (0, 0))) : Reads w (.slice (some ⟨b, 0, none⟩) 1 1) 1 1 [.int .i64 x] := by
  refine .inr ⟨_, 1, rfl, Nat.le_refl _, by unfold maxLen; omega, rfl, fun j u hu => ?_⟩
  match j, hu with
  | 0, hu => cases hu; rw [Addr.add_lit]; exact cell_of_heap h rfl
theorem reads_block {b n : Nat} {xs : List Value} {t : TypeId} (h : w.heap[b]? = some (.cells xs.toArray t (0, 0))) (hn : xs.length = n) (hm : n ≤ 100000) : Reads w (.slice (some ⟨b, 0, none⟩) n n) 1 n xs := by
  refine .inr ⟨_, n, rfl, Nat.le_refl _, by unfold maxLen; omega, by omega, fun j u hu => ?_⟩
  rw [Addr.add_lit, Nat.zero_add]
  exact cell_of_heap h (by simpa using hu)
/-- the list of lists of awake -/
theorem want_in {b : Nat} (h0 : w.heap[b]? = some (.cells #[.int .i64 1] 3 (0, 0))) (h1 : w.heap[b + 1]? = some (.cells #[.int .i64 2] 3 (0, 0))) (h2 : w.heap[b + 1 + 1]? = some (.cells #[.int .i64 3] 3 (0, 0))) (h3 : w.heap[b + 1 + 1 + 1]? = some (.cells #[.int .i64 0] 3 (0, 0)))
    (h4 : w.heap[b + 1 + 1 + 1 + 1]? = some (.cells #[.slice (some ⟨b, 0, none⟩) 1 1, .slice (some ⟨b + 1, 0, none⟩) 1 1, .slice (some ⟨b + 1 + 1, 0, none⟩) 1 1, .slice (some ⟨b + 1 + 1 + 1, 0, none⟩) 1 1, .slice none 0 0, .slice none 0 0] 37 (0, 0))) :
    NxIn w (.slice (some ⟨b + 1 + 1 + 1 + 1, 0, none⟩) 6 6) [[1], [2], [3], [0], [], []] := by
  refine ⟨[.slice (some ⟨b, 0, none⟩) 1 1, .slice (some ⟨b + 1, 0, none⟩) 1 1, .slice (some ⟨b + 1 + 1, 0, none⟩) 1 1, .slice (some ⟨b + 1 + 1 + 1, 0, none⟩) 1 1, .slice none 0 0, .slice none 0 0], reads_block h4 rfl (by decide), fun k v l hv hl => ?_⟩
  have hk : k < 6 := by have := (List.getElem?_eq_some_iff.1 hl).1; simpa using this
  have h : k = 0 ∨ k = 1 ∨ k = 2 ∨ k = 3 ∨ k = 4 ∨ k = 5 := by omega
  rcases h with rfl | rfl | rfl | rfl | rfl | rfl <;> (simp at hv hl; subst hv; subst hl)
  · exact reads_num h0
  · exact reads_num h1
  · exact reads_num h2
  · exact reads_num h3
  · exact .inl ⟨rfl, rfl, rfl⟩
  · exact .inl ⟨rfl, rfl, rfl⟩

def wantW (w : World) : World := ((((w.alloc (.cells #[.int .i64 1] 3)).alloc (.cells #[.int .i64 2] 3)).alloc (.cells #[.int .i64 3] 3)).alloc (.cells #[.int .i64 0] 3)).alloc
  (.cells #[.slice (some ⟨w.heap.size, 0, none⟩) 1 1, .slice (some ⟨w.heap.size + 1, 0, none⟩) 1 1, .slice (some ⟨w.heap.size + 1 + 1, 0, none⟩) 1 1, .slice (some ⟨w.heap.size + 1 + 1 + 1, 0, none⟩) 1 1, .slice none 0 0, .slice none 0 0] 37)
theorem heap_here {o : Obj} {n : Nat} (h : w.heap.size = n) : (w.alloc o).heap[n]? = some o := by subst h; exact heap_new w o
theorem want_ok (w : World) : NxIn (wantW w) (.slice (some ⟨w.heap.size + 1 + 1 + 1 + 1, 0, none⟩) 6 6) [[1], [2], [3], [0], [], []] ∧ Fr no w (wantW w) := by
  refine ⟨want_in ?_ ?_ ?_ ?_ ?_, (((((Fr.refl no w).alloc _).alloc _).alloc _).alloc _).alloc _⟩
  · exact hkeep (hkeep (hkeep (hkeep (heap_here rfl) _) _) _) _
  · exact hkeep (hkeep (hkeep (heap_here (by simp)) _) _) _
  · exact hkeep (hkeep (heap_here (by simp)) _) _
  · exact hkeep (heap_here (by simp)) _
  · exact heap_here (by simp)

set_option maxRecDepth 100000 in
set_option maxHeartbeats 8000000 in
theorem awake10_ok (w : World) : Calls Tryz.prog 6 #[] w fun e w' => e = .returned (.bool true) ∧ Fr no w w' := by
  go_enter Tryz.func6, Tryz.ntmps6
  go_wp2_with fail
  refine (six_ok w).mono ?_
  rintro e w1 ⟨rfl, hc1, r1⟩
  have HNX : Hid (Calls Tryz.prog 8 #[.slice (some ⟨w.heap.size, 0, none⟩) 6 6] w1 (NextPost w1 0 [[1], [2], [3], [0], [], []])) := Lib.hid (by
    have := fnext_ok w1 _ 6 sixL hc1 (by decide) six_few six_rng
    rw [six_ck, six_nxs] at this
    exact this)
  have R1 := Lib.hid r1
  clear r1 hc1
  go_wp2_with fail
  refine HNX.out.mono ?_
  rintro e w2 ⟨u, rfl, -, hg, r2⟩
  have HN2 := Lib.hid (hg rfl).nx
  obtain ⟨ua, uc, rfl⟩ := HN2.out.shape
  have R2 := Lib.hid (R1.out.trans r2)
  clear r2 hg HNX R1
  go_wp2_with fail
  refine (six_ok w2).mono ?_
  rintro e w3 ⟨rfl, hc3, r3⟩
  have HRE : Hid (Calls Tryz.prog 10 #[.slice (some ⟨w2.heap.size, 0, none⟩) 6 6] w3 (ReachPost w3 0 (fis sixL))) := Lib.hid (by
    have := freached_ok w3 _ 6 sixL hc3 (by decide) six_few six_rng
    rw [six_ck] at this
    exact this)
  have HN3 := Lib.hid (HN2.out.fr r3)
  have R3 := Lib.hid (R2.out.trans r3)
  clear r3 hc3 HN2 R2
  go_wp2_with fail
  refine HRE.out.mono ?_
  rintro e w4 ⟨u, rfl, -, hg, r4⟩
  obtain ⟨ob, hl, hr, hq⟩ := hg rfl
  have ho := six_ob hl hq
  subst ho
  obtain ⟨ra, rc, rfl⟩ := hr.shape
  change Reads w4 (.slice ra 6 rc) 1 6 (bools [true, true, true, true, false, false]) at hr
  have HR4 := Lib.hid hr
  have HN4 := Lib.hid (HN3.out.fr r4)
  have R4 := Lib.hid (R3.out.trans r4)
  have H6 : (fis sixL).length = 6 := rfl
  rw [H6]
  clear hr hq hl hg r4 HN3 R3 HRE H6
  dsimp only [List.length_cons, List.length_nil, Nat.zero_add] at HN4 ⊢
  have e0 : ((0 : Int) == 0) = true := rfl
  go_wp2_with fail
  have HSL : Hid (Calls Tryz.prog 12 #[.slice ua 6 uc, .slice (some ⟨w4.heap.size + 1 + 1 + 1 + 1, 0, none⟩) 6 6] (wantW w4) fun e w' => e = .returned (.bool true) ∧ Fr no (wantW w4) w') := Lib.hid (by
    have := samelists_ok (wantW w4) ua (some ⟨w4.heap.size + 1 + 1 + 1 + 1, 0, none⟩) uc 6 [[1], [2], [3], [0], [], []] [[1], [2], [3], [0], [], []] (HN4.out.fr (want_ok w4).2) (want_ok w4).1 (by decide) (by decide)
    rw [decide_eq_true rfl] at this
    exact this)
  have R5 := Lib.hid (R4.out.trans (want_ok w4).2)
  have HR5 := Lib.hid (HR4.out.fr (want_ok w4).2 (by simp))
  change Calls _ _ _ (wantW w4) _
  generalize wantW w4 = w5 at *
  clear HN4 HR4 R4
  refine HSL.out.mono ?_
  rintro e w6 ⟨rfl, r6⟩
  have HSB : Hid (Calls Tryz.prog 13 #[.slice ra 6 rc, .slice (some ⟨w6.heap.size, 0, none⟩) 6 6] (w6.alloc (.cells #[.bool true, .bool true, .bool true, .bool true, .bool false, .bool false] 4)) fun e w' => e = .returned (.bool true) ∧ Fr no (w6.alloc (.cells #[.bool true, .bool true, .bool true, .bool true, .bool false, .bool false] 4)) w') := Lib.hid (by
    have := samebools_ok (w6.alloc (.cells #[.bool true, .bool true, .bool true, .bool true, .bool false, .bool false] 4)) ra (some ⟨w6.heap.size, 0, none⟩) rc 6 [true, true, true, true, false, false] [true, true, true, true, false, false] (HR5.out.fr (r6.alloc _) (by simp)) (reads_block (heap_new w6 _) rfl (by decide)) (by decide)
    rw [decide_eq_true rfl] at this
    exact this)
  have R6 := Lib.hid (R5.out.trans (r6.alloc (.cells #[.bool true, .bool true, .bool true, .bool true, .bool false, .bool false] 4)))
  clear r6 HR5 R5 HSL
  go_wp2_with fail
  refine HSB.out.mono ?_
  rintro e w7 ⟨rfl, r7⟩
  have R7 := Lib.hid (R6.out.trans r7)
  clear r7
  go_wp2_with fail
  go_ret
  exact ⟨rfl, R7.out⟩

end Go.Proofs.YtgofiaodncemiaaGreat

import Derived.Test.YtpgmfifieilhkaaC1
namespace Go.Proofs.Ytpgmfifieilhkaa
open Go.RowKit

attribute [local go_sem] Program.isFuncB Program.isSliceB

variable {w w' : World} {words : Nat} {P : List (Nat × List Nat)} {s : CS}

theorem CTo.refl (h : CacheAt w words P s) : CTo w w words P s P s := ⟨h, rfl, fun _ hk => .inl hk, Fr.refl _ _⟩
theorem CTo.same (h : CacheAt w words P s) (hf : Fr no w w') : CTo w w' words P s P s := ⟨h.fr hf (by simp), rfl, fun _ hk => .inl hk, hf.to⟩

set_option maxHeartbeats 1000000 in
theorem ready_yes (h : CSt w words P s) :
    Calls Try.prog 25 #[.pointer (some ⟨s.b, 0, none⟩)] w fun e w' => e = .returned (.bool true) ∧ ∃ s', CTo w w' words P s P s' := by
  have hmf := run_makeFuncAny
  rcases h with h | ⟨h, rfl⟩
  · have ra : Fr no w (w.alloc (.cells #[.pointer (some ⟨s.b, 0, none⟩)] 27)) := (Fr.refl no w).alloc _
    have h' := h.fr ra (by simp)
    have e0 : (w.alloc (.cells #[.pointer (some ⟨s.b, 0, none⟩)] 27)).cell? ⟨s.b, 0, none⟩ = some (.bool true) := cell_of_heap h'.obj rfl
    have e2 : (w.alloc (.cells #[.pointer (some ⟨s.b, 0, none⟩)] 27)).cell? ⟨s.b, 2, none⟩ = some (.int .u32 1) := cell_of_heap h'.obj rfl
    have H := Lib.hid h'
    clear h h'
    go_enter Try.func25, Try.ntmps25
    go_wp2_with fail
    refine (do_done ⟨s.b, 2, none⟩ 1 rfl _ _ e2).mono ?_
    rintro e w' ⟨rfl, rfl⟩
    go_wp2_with fail
    go_ret
    exact ⟨rfl, s, H.out, rfl, fun _ hk => .inl hk, ra.to⟩
  · have hb := (Array.getElem?_eq_some_iff.1 h.obj).1
    have ra : Fr no w (w.alloc (.cells #[.pointer (some ⟨s.b, 0, none⟩)] 27)) := (Fr.refl no w).alloc _
    have hpl := heap_new w (.cells #[.pointer (some ⟨s.b, 0, none⟩)] 27)
    have hobj := ra.heap h.obj (by simp)
    have e0 : (w.alloc (.cells #[.pointer (some ⟨s.b, 0, none⟩)] 27)).cell? ⟨s.b, 0, none⟩ = some (.bool true) := cell_of_heap hobj rfl
    have e2 : (w.alloc (.cells #[.pointer (some ⟨s.b, 0, none⟩)] 27)).cell? ⟨s.b, 2, none⟩ = some (.int .u32 0) := cell_of_heap hobj rfl
    have e3 : (w.alloc (.cells #[.pointer (some ⟨s.b, 0, none⟩)] 27)).cell? ⟨s.b, 2 + 1, none⟩ = some (.int .i32 0) := cell_of_heap hobj rfl
    have z3 : (w.alloc (.cells #[.pointer (some ⟨s.b, 0, none⟩)] 27)).frozen? ⟨s.b, 2 + 1, none⟩ = false := frozen_of_heap hobj
    have H := Lib.hid h
    have HP := Lib.hid hpl
    have HO := Lib.hid hobj
    clear h hpl hobj
    go_enter Try.func25, Try.ntmps25
    go_wp2_with fail
    generalize (w.alloc (.cells #[.pointer (some ⟨s.b, 0, none⟩)] 27)) = w1 at *
    have rl : Fr (only [s.b]) w1 (w1.setCell ⟨s.b, 2 + 1, none⟩ (.int .i32 1)) := (Fr.refl _ _).setCell _ _ (.inl (by simp))
    have ho1 := heap_setCell (o := 2 + 1) (v := .int .i32 1) HO.out
    simp only [List.setIfInBounds_toArray, List.set_cons_zero, List.set_cons_succ] at ho1
    have hsz1 := ra.size
    have hlaid := laid_any s.b w.heap.size words _ H.out.few (by omega) (rl.heap HP.out (by simp; omega)) ho1
    refine (do_first s.b 2 35 #[.pointer (some ⟨w.heap.size, 0, none⟩)] (fun w' => ∃ cv g, w'.heap[s.b]? = some (.cells #[.bool true, .int .i64 words, .int .u32 0, .int .i32 1, .int .u32 0, cv, .pointer (some ⟨g, 0, none⟩), .slice none 0 0] 64 (0, 0)) ∧
      w'.ownsRow 0 52 1 cv 0 [] ∧ w'.heap[g]? = some (.cells z86 86 (0, 0)) ∧ w.heap.size ≤ g ∧ (∀ k, cv.ownBlock = some k → w.heap.size ≤ k) ∧ Fr (only [s.b]) w w') _ e2 e3 z3 (fun _ => by simp [go_sem]) (hlaid.mono ?_)).mono ?_
    · rintro e w2 ⟨rfl, cv, g, a1, a2, a3, a4, a5, a6⟩
      simp only [World.size_setCell] at a4 a5
      refine ⟨rfl, ⟨cv, g, a1, a2, a3, by omega, fun k hk => by have := a5 k hk; omega, ((ra.to).trans rl).trans a6⟩, cell_of_heap a1 rfl, cell_of_heap a1 rfl, frozen_of_heap a1, frozen_of_heap a1⟩
    · rintro e w' ⟨rfl, w2, ⟨cv, g, a1, a2, a3, a4, a5, a6⟩, rfl⟩
      go_wp2_with fail
      go_ret
      have hgb : g ≠ s.b := by omega
      have r2 : Fr (only [s.b]) w2 ((w2.drew.setCell ⟨s.b, 2, none⟩ (.int .u32 1)).setCell ⟨s.b, 2 + 1, none⟩ (.int .i32 0)) := (((Fr.refl _ w2).drew).setCell _ _ (.inl (by simp))).setCell _ _ (.inl (by simp))
      refine ⟨rfl, ⟨s.b, g, cv, .slice none 0 0, s.lp⟩, ?_, rfl, ?_, ?_⟩
      · refine ⟨?_, ?_, World.ownsRow_nil _ _ _ _, ?_, ?_, ?_⟩
        · have q1 : w2.drew.heap[s.b]? = some _ := a1
          have q2 := heap_setCell (o := 2 + 1) (v := .int .i32 0) (heap_setCell (o := 2) (v := .int .u32 1) q1)
          simp only [List.setIfInBounds_toArray, List.set_cons_zero, List.set_cons_succ] at q2
          exact q2
        · exact owns_fr a2 r2 (fun k hk => by have := a5 k hk; simp; omega)
        · refine ⟨z86, r2.heap a3 (by simp; omega), fun f hf => ?_⟩
          simp [z86, hf, ofCell]
        · intro i hi; simp at hi
        · exact ⟨by simp, by simp, by simp [flat], H.out.few⟩
      · intro k hk
        rcases hk with rfl | rfl | hk | hk | ⟨x, hx, _⟩
        · exact .inl (.inl rfl)
        · exact .inr a4
        · exact .inr (a5 k hk)
        · cases hk
        · cases hx
      · exact ((a6.trans r2).drewN 0).mono (fun k hk _ => .inl (by simpa using hk))

def Nobody (w : World) (v : Value) : Prop := v = .pointer none ∨ ∃ b, v = .pointer (some ⟨b, 0, none⟩) ∧ w.cell? ⟨b, 0, none⟩ = some (.bool false)
theorem Nobody.shape {v : Value} (h : Nobody w v) : ∃ a, v = .pointer a := by
  rcases h with rfl | ⟨b, rfl, _⟩ <;> exact ⟨_, rfl⟩
theorem Nobody.fr {v : Value} (h : Nobody w v) (hf : Fr no w w') : Nobody w' v := by
  rcases h with rfl | ⟨b, rfl, h⟩
  · exact .inl rfl
  · exact .inr ⟨b, rfl, hf.cell h (by simp)⟩

set_option maxHeartbeats 1000000 in
theorem ready_no {v : Value} (h : Nobody w v) :
    Calls Try.prog 25 #[v] w fun e w' => e = .returned (.bool false) ∧ Fr no w w' := by
  rcases h with rfl | ⟨b, rfl, h⟩
  · go_enter Try.func25, Try.ntmps25
    go_wp2_with fail
    go_ret
    exact ⟨rfl, (Fr.refl no w).alloc _⟩
  · have e0 : (w.alloc (.cells #[.pointer (some ⟨b, 0, none⟩)] 27)).cell? ⟨b, 0, none⟩ = some (.bool false) := ((Fr.refl no w).alloc _).cell h (by simp)
    go_enter Try.func25, Try.ntmps25
    go_wp2_with fail
    go_ret
    exact ⟨rfl, (Fr.refl no w).alloc _⟩

set_option maxHeartbeats 1000000 in
theorem new_yes (w : World) (words : Nat) (hw : words ≤ 65536) :
    Calls Try.prog 9 #[.int .i64 words] w fun e w' => ∃ s, e = .returned (.tuple #[.pointer (some ⟨s.b, 0, none⟩), .int .i64 0]) ∧ CSt w' words [] s ∧ Fr no w w' ∧ ∀ k, foot s [] k → w.heap.size ≤ k := by
  go_enter Try.func9, Try.ntmps9
  go_wp2_with fail
  go_ret2
  refine ⟨⟨w.heap.size, w.heap.size, .slice none 0 0, .slice none 0 0, fun _ => 0⟩, rfl, .inr ⟨⟨heap_new _ _, rfl, rfl, rfl, hw⟩, rfl⟩, (Fr.refl no w).alloc _, ?_⟩
  intro k hk
  rcases hk with rfl | rfl | hk | hk | ⟨x, hx, _⟩
  · exact Nat.le_refl _
  · exact Nat.le_refl _
  · cases hk
  · cases hk
  · cases hx

theorem new_no (w : World) (t : Int) (ht : t < 0 ∨ 65536 < t) :
    Calls Try.prog 9 #[.int .i64 t] w fun e w' => e = .returned (.tuple #[.pointer none, .int .i64 2]) ∧ w = w' := by
  by_cases h : t < 0
  · go_enter Try.func9, Try.ntmps9
    go_wp2_with fail
    go_ret2
    exact ⟨rfl, rfl⟩
  · have h2 : 65536 < t := by omega
    clear ht
    go_enter Try.func9, Try.ntmps9
    go_wp2_with fail
    go_ret2
    exact ⟨rfl, rfl⟩

def adr (n : Nat) : Nat := 4294967296 + 4 * n
theorem address_any (w : World) (n : Nat) (hn : n ≤ 1000000) :
    Calls Try.prog 26 #[.int .i64 n] w fun e w' => e = .returned (.int .u64 (adr n)) ∧ w = w' := by
  go_enter Try.func26, Try.ntmps26
  go_wp2_with fail
  go_ret
  exact ⟨by rw [show ((adr n : Nat) : Int) = 4294967296 + 4 * n from by unfold adr; omega]; rfl, rfl⟩

/-! ### what asks only -/
set_option maxHeartbeats 1000000 in
theorem next_yes (h : CSt w words P s) :
    Calls Try.prog 15 #[.pointer (some ⟨s.b, 0, none⟩)] w fun e w' => e = .returned (.int .u64 (adr (flat P).length)) ∧ ∃ s', CTo w w' words P s P s' := by
  have H := Lib.hid h
  clear h
  go_enter Try.func15, Try.ntmps15
  go_wp2_with fail
  refine (ready_yes H.out).mono ?_
  rintro e w1 ⟨rfl, s1, h1⟩
  have hb := h1.b
  obtain ⟨ca, cc, hcv⟩ := owns_shape h1.at_.code
  have e5 : w1.cell? ⟨s.b, 5, none⟩ = some (.slice ca (flat P).length cc) := by rw [← hb, ← hcv]; exact cell_of_heap h1.at_.obj rfl
  have hlen : (flat P).length ≤ 65536 := Nat.le_trans h1.at_.ok.room h1.at_.ok.few
  have H1 := Lib.hid h1
  clear h1 hb hcv
  go_wp2_with fail
  refine (address_any _ _ (by omega)).mono ?_
  rintro e w' ⟨rfl, rfl⟩
  go_wp2_with fail
  go_ret
  exact ⟨rfl, s1, H1.out⟩

set_option maxHeartbeats 1000000 in
theorem next_no {v : Value} (h : Nobody w v) : Calls Try.prog 15 #[v] w fun e w' => e = .returned (.int .u64 0) ∧ Fr no w w' := by
  have H := Lib.hid h
  obtain ⟨a, rfl⟩ := h.shape
  clear h
  go_enter Try.func15, Try.ntmps15
  go_wp2_with fail
  refine (ready_no H.out).mono ?_
  rintro e w1 ⟨rfl, r1⟩
  go_wp2_with fail
  go_ret
  exact ⟨rfl, r1⟩

set_option maxHeartbeats 1000000 in
theorem left_yes (h : CSt w words P s) :
    Calls Try.prog 14 #[.pointer (some ⟨s.b, 0, none⟩)] w fun e w' => e = .returned (.int .i64 (words - (flat P).length : Nat)) ∧ ∃ s', CTo w w' words P s P s' := by
  have H := Lib.hid h
  clear h
  go_enter Try.func14, Try.ntmps14
  go_wp2_with fail
  refine (ready_yes H.out).mono ?_
  rintro e w1 ⟨rfl, s1, h1⟩
  have hb := h1.b
  obtain ⟨ca, cc, hcv⟩ := owns_shape h1.at_.code
  have e5 : w1.cell? ⟨s.b, 5, none⟩ = some (.slice ca (flat P).length cc) := by rw [← hb, ← hcv]; exact cell_of_heap h1.at_.obj rfl
  have e1 : w1.cell? ⟨s.b, 1, none⟩ = some (.int .i64 words) := by rw [← hb]; exact cell_of_heap h1.at_.obj rfl
  have hroom := h1.at_.ok.room
  have hfew := h1.at_.ok.few
  have H1 := Lib.hid h1
  clear h1 hb hcv
  have X := Lib.hid (show ((words - (flat P).length : Nat) : Int) = words - (flat P).length from by omega)
  go_wp2_with fail
  go_quiet (fail)
  go_wp2_with fail
  go_ret
  refine ⟨by rw [X.out]; rfl, s1, ?_⟩
  obtain ⟨a1, a2, a3, a4⟩ := H1.out
  exact ⟨a1.fr ((Fr.refl no w1).drewN _) (by simp), a2, a3, a4.drewN _⟩

set_option maxHeartbeats 1000000 in
theorem left_no {v : Value} (h : Nobody w v) : Calls Try.prog 14 #[v] w fun e w' => e = .returned (.int .i64 0) ∧ Fr no w w' := by
  have H := Lib.hid h
  obtain ⟨a, rfl⟩ := h.shape
  clear h
  go_enter Try.func14, Try.ntmps14
  go_wp2_with fail
  refine (ready_no H.out).mono ?_
  rintro e w1 ⟨rfl, r1⟩
  go_wp2_with fail
  go_ret
  exact ⟨rfl, r1⟩

theorem u32s_one {l : List Nat} : ∀ u ∈ u32s l, u.oneCell' = true := by
  intro u hu; simp only [u32s, List.mem_map] at hu; obtain ⟨x, _, rfl⟩ := hu; rfl

-- slices.Clone of words
set_option maxHeartbeats 1000000 in
theorem clone_any (w : World) (v : Value) (l : List Nat) (h : Reads w v 1 l.length (u32s l)) (hb : l.length ≤ 1000000) :
    Calls Try.prog 27 #[v] w fun e w' => ∃ v', e = .returned v' ∧ w'.ownsRow w.heap.size 52 1 v' l.length (u32s l) ∧ Fr no w w' := by
  have HR := Lib.hid (h.fr (((Fr.refl no w).alloc (.cells #[] 52))) (by simp))
  have HO := Lib.hid (owns_new w 52 1)
  rcases h with ⟨rfl, h1, h2⟩ | ⟨a, cap, rfl, h1, h2, h3, h4⟩
  · have hx := List.length_eq_zero_iff.1 h1
    subst hx
    clear h1 h2
    go_enter Try.func27, Try.ntmps27
    go_wp2
    go_ret
    exact ⟨_, rfl, World.ownsRow_nil _ _ _ _, Fr.refl _ _⟩
  · clear h3 h4 h2
    go_enter Try.func27, Try.ntmps27
    go_wp2_with (at_builtin; refine wpList_append_any rfl _ _ 23 rfl w.heap.size 52 (.int .u32 0) 1 4 Try.underlying23 Try.info52 rfl (by decide) _ 0 [] rfl HO.out l.length _ HR.out u32s_one (by unfold maxLen; omega) (by omega) (by simp) ?_; intro a' c' w1 hown' hgrow)
    go_ret
    simp only [Nat.zero_add, List.nil_append] at hown'
    exact ⟨_, rfl, hown', ((Fr.refl no w).alloc _).grown hgrow (fun k hk => .inr (Nat.le_of_eq (Option.some.inj hk)))⟩

theorem u32s_len (l : List Nat) : (u32s l).length = l.length := by simp [u32s]

set_option maxHeartbeats 1000000 in
theorem code_yes (h : CSt w words P s) :
    Calls Try.prog 13 #[.pointer (some ⟨s.b, 0, none⟩)] w fun e w' => ∃ v', e = .returned v' ∧ w'.ownsRow w.heap.size 52 1 v' (flat P).length (u32s (flat P)) ∧ ∃ s', CTo w w' words P s P s' := by
  have H := Lib.hid h
  clear h
  go_enter Try.func13, Try.ntmps13
  go_wp2_with fail
  refine (ready_yes H.out).mono ?_
  rintro e w1 ⟨rfl, s1, h1⟩
  have hb := h1.b
  obtain ⟨ca, cc, hcv⟩ := owns_shape h1.at_.code
  have e5 : w1.cell? ⟨s.b, 5, none⟩ = some (.slice ca (flat P).length cc) := by rw [← hb, ← hcv]; exact cell_of_heap h1.at_.obj rfl
  have hlen : (flat P).length ≤ 65536 := Nat.le_trans h1.at_.ok.room h1.at_.ok.few
  have HRd := Lib.hid (hcv ▸ owns_reads h1.at_.code)
  have H1 := Lib.hid h1
  clear h1 hb hcv
  go_wp2_with fail
  refine (clone_any _ _ _ HRd.out (by omega)).mono ?_
  rintro e w2 ⟨v', rfl, ho, r2⟩
  obtain ⟨va, vc, rfl⟩ := owns_shape ho
  go_wp2_with fail
  go_ret
  obtain ⟨a1, a2, a3, a4⟩ := H1.out
  have := a4.size
  exact ⟨_, rfl, owns_base ho (fun k hk => by have := (ho.lt k hk).1; omega), s1, a1.fr r2 (by simp), a2, a3, a4.trans' r2 (by simp)⟩

set_option maxHeartbeats 1000000 in
theorem code_no {v : Value} (h : Nobody w v) : Calls Try.prog 13 #[v] w fun e w' => e = .returned (.slice none 0 0) ∧ Fr no w w' := by
  have H := Lib.hid h
  obtain ⟨a, rfl⟩ := h.shape
  clear h
  go_enter Try.func13, Try.ntmps13
  go_wp2_with fail
  refine (ready_no H.out).mono ?_
  rintro e w1 ⟨rfl, r1⟩
  go_wp2_with fail
  go_ret
  exact ⟨rfl, r1⟩

end Go.Proofs.Ytpgmfifieilhkaa

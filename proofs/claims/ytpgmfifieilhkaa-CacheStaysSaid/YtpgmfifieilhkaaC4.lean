import Derived.Test.YtpgmfifieilhkaaC3
namespace Go.Proofs.Ytpgmfifieilhkaa
open Go.RowKit

attribute [local go_sem] Program.isFuncB Program.isSliceB

variable {w w' : World} {words : Nat} {P : List (Nat × List Nat)} {s : CS}

theorem flat_app (P Q : List (Nat × List Nat)) : flat (P ++ Q) = flat P ++ flat Q := by simp [flat]
theorem flat_one (f : Nat) (ws : List Nat) : flat [(f, ws)] = ws := by simp [flat]

def CS.put (s : CS) (f lp : Nat) (cv lv : Value) : CS := { s with cv := cv, lv := lv, lp := fun i => if i = f then lp else s.lp i }

theorem CS.put_lp (s : CS) (f lp : Nat) (cv lv : Value) (P : List (Nat × List Nat)) (hm : f ∉ P.map (·.1)) {x : Nat × List Nat} (hx : x ∈ P) : (s.put f lp cv lv).lp x.1 = s.lp x.1 := by
  have : x.1 ≠ f := fun e => hm (e ▸ List.mem_map_of_mem hx)
  simp [CS.put, this]

/-- the worlds of a Put, one behind the other -/
theorem put_world {w1 w2 w3 w5 w6 w7 w8 : World} {f lp : Nat} {ws : List Nat} {cv lv : Value}
    (h : CacheAt w1 words P s) (hf : f < 64) (hm : f ∉ P.map (·.1)) (hws : ws ≠ []) (hlt : ∀ n ∈ ws, n < 4294967296) (hroom : (flat P).length + ws.length ≤ words)
    (hlp : lp = w1.heap.size) (r12 : Fr no w1 w2) (hl2 : w2.heap[lp]? = some (.cells #[.int .i64 f, .int .i64 (flat P).length, .int .i64 ws.length] 75 (0, 0)))
    (e3 : w3 = w2.setCell ⟨s.g, f, none⟩ (.pointer (some ⟨lp, 0, none⟩)))
    (r35 : Fr (fun k => s.lv.ownBlock = some k) w3 w5) (ho5 : w5.ownsRow 0 73 1 lv (P.length + 1) ((P.map fun x => .pointer (some ⟨s.lp x.1, 0, none⟩)) ++ [.pointer (some ⟨lp, 0, none⟩)]))
    (hn5 : ∀ k, lv.ownBlock = some k → s.lv.ownBlock = some k ∨ w3.heap.size ≤ k)
    (e6 : w6 = w5.setCell ⟨s.b, 7, none⟩ lv)
    (r67 : Fr (fun k => s.cv.ownBlock = some k) w6 w7) (ho7 : w7.ownsRow 0 52 1 cv ((flat P).length + ws.length) (u32s (flat P) ++ u32s ws))
    (hn7 : ∀ k, cv.ownBlock = some k → s.cv.ownBlock = some k ∨ w6.heap.size ≤ k)
    (e8 : w8 = w7.setCell ⟨s.b, 5, none⟩ cv) :
    CTo w1 w8 words P s (P ++ [(f, ws)]) (s.put f lp cv lv) := by
  obtain ⟨c, hc1, hc2⟩ := h.of_
  have lb := (Array.getElem?_eq_some_iff.1 h.obj).1
  have lg := (Array.getElem?_eq_some_iff.1 hc1).1
  have ne_bg : s.b ≠ s.g := by intro e; have h1 := h.obj; rw [e, hc1] at h1; simp at h1
  have own_ne : ∀ {e : TypeId} {v : Value} {n : Nat} {xs : List Value}, w1.ownsRow 0 e 1 v n xs → e ≠ 64 → e ≠ 86 → e ≠ 75 → ∀ k, v.ownBlock = some k → k ≠ s.b ∧ k ≠ s.g ∧ ∀ x ∈ P, k ≠ s.lp x.1 := by
    intro e v n xs ho h1 h2 h3 k hk
    rcases ho.2 with ⟨rfl, _⟩ | ⟨g, cap, cur, rfl, _, hg, _⟩
    · cases hk
    · cases hk
      refine ⟨?_, ?_, ?_⟩
      · rintro rfl; have := hg.symm.trans h.obj; simp [h1] at this
      · rintro rfl; have := hg.symm.trans hc1; simp [h2] at this
      · rintro x hx rfl
        obtain ⟨i, hi, rfl⟩ := List.getElem_of_mem hx
        have := hg.symm.trans (h.lie i hi); simp [h3] at this
  have nl := own_ne h.lies (by decide) (by decide) (by decide)
  have nc := own_ne h.code (by decide) (by decide) (by decide)
  have ncl : ∀ k, s.cv.ownBlock = some k → s.lv.ownBlock ≠ some k := by
    intro k hk hk'
    rcases h.code.2 with ⟨h1, _⟩ | ⟨g, cap, cur, h1, _, hg, _⟩
    · rw [h1] at hk; cases hk
    · rcases h.lies.2 with ⟨h2, _⟩ | ⟨g', cap', cur', h2, _, hg', _⟩
      · rw [h2] at hk'; cases hk'
      · rw [h1] at hk; rw [h2] at hk'
        cases hk; cases hk'
        have := hg.symm.trans hg'; simp at this
  have lie_ne : ∀ x ∈ P, s.lp x.1 ≠ s.b ∧ s.lp x.1 ≠ s.g ∧ s.lp x.1 < w1.heap.size := by
    intro x hx
    obtain ⟨i, hi, rfl⟩ := List.getElem_of_mem hx
    refine ⟨?_, ?_, (Array.getElem?_eq_some_iff.1 (h.lie i hi)).1⟩
    · intro e; have := h.lie i hi; rw [e, h.obj] at this; simp at this
    · intro e; have := h.lie i hi; rw [e, hc1] at this; simp at this
  have s12 := r12.size
  have r23 : Fr (only [s.g]) w2 w3 := by rw [e3]; exact (Fr.refl _ _).setCell _ _ (.inl (by simp))
  have r56 : Fr (only [s.b]) w5 w6 := by rw [e6]; exact (Fr.refl _ _).setCell _ _ (.inl (by simp))
  have r78 : Fr (only [s.b]) w7 w8 := by rw [e8]; exact (Fr.refl _ _).setCell _ _ (.inl (by simp))
  have s23 := r23.size
  have s35 := r35.size
  have s56 := r56.size
  have s67 := r67.size
  have llp := (Array.getElem?_eq_some_iff.1 hl2).1
  -- a block that is none of those that turn
  have keep : ∀ {k : Nat} {o : Obj}, w2.heap[k]? = some o → k ≠ s.g → k ≠ s.b → s.lv.ownBlock ≠ some k → s.cv.ownBlock ≠ some k → w8.heap[k]? = some o := by
    intro k o hk n1 n2 n3 n4
    exact r78.heap (r67.heap (r56.heap (r35.heap (r23.heap hk (by simpa using n1)) n3) (by simpa using n2)) n4) (by simpa using n2)
  have lpn : s.lv.ownBlock ≠ some lp ∧ s.cv.ownBlock ≠ some lp ∧ lp ≠ s.g ∧ lp ≠ s.b := by
    refine ⟨fun e => ?_, fun e => ?_, by omega, by omega⟩
    · have := owns_lt h.lies lp e; omega
    · have := owns_lt h.code lp e; omega
  have ho : w2.heap[s.b]? = some _ := r12.heap h.obj (by simp)
  have hg3 : w3.heap[s.g]? = some (.cells (c.setIfInBounds f (.pointer (some ⟨lp, 0, none⟩))) 86 (0, 0)) := by rw [e3]; exact heap_setCell (r12.heap hc1 (by simp))
  have ho5' : w5.heap[s.b]? = some _ := r35.heap (r23.heap ho (by simpa using ne_bg)) (fun e => (nl _ e).1 rfl)
  have ho6 : w6.heap[s.b]? = some _ := e6 ▸ heap_setCell (o := 7) (v := lv) ho5'
  have ho7' : w7.heap[s.b]? = some _ := r67.heap ho6 (fun e => (nc _ e).1 rfl)
  have ho8 : w8.heap[s.b]? = some _ := e8 ▸ heap_setCell (o := 5) (v := cv) ho7'
  have hg8 : w8.heap[s.g]? = some (.cells (c.setIfInBounds f (.pointer (some ⟨lp, 0, none⟩))) 86 (0, 0)) :=
    r78.heap (r67.heap (r56.heap (r35.heap hg3 (fun e => (nl _ e).2.1 rfl)) (by simpa using ne_bg.symm)) (fun e => (nc _ e).2.1 rfl)) (by simpa using ne_bg.symm)
  have lvne : ∀ k, lv.ownBlock = some k → k ≠ s.b ∧ s.cv.ownBlock ≠ some k := by
    intro k hk
    rcases hn5 k hk with h1 | h1
    · exact ⟨(nl k h1).1, fun e => ncl k e h1⟩
    · exact ⟨by omega, fun e => by have := owns_lt h.code k e; omega⟩
  have cvne : ∀ k, cv.ownBlock = some k → k ≠ s.b := by
    intro k hk
    rcases hn7 k hk with h1 | h1
    · exact (nc k h1).1
    · omega
  refine ⟨⟨?_, ?_, ?_, ⟨_, hg8, ?_⟩, ?_, ?_⟩, rfl, ?_, ?_⟩
  · simp only [List.setIfInBounds_toArray, List.set_cons_zero, List.set_cons_succ] at ho8
    exact ho8
  · have := owns_fr ho7 r78 (fun k hk => by simpa using cvne k hk)
    rw [flat_app, flat_one, List.length_append]
    simpa [u32s, CS.put] using this
  · have h6 := owns_fr ho5 r56 (fun k hk => by simpa using (lvne k hk).1)
    have h7 := owns_fr h6 r67 (fun k hk => (lvne k hk).2)
    have h8 := owns_fr h7 r78 (fun k hk => by simpa using (lvne k hk).1)
    rw [List.map_append, List.length_append]
    have e1 : (P.map fun x => Value.pointer (some ⟨(s.put f lp cv lv).lp x.1, 0, none⟩)) = P.map fun x => Value.pointer (some ⟨s.lp x.1, 0, none⟩) :=
      List.map_congr_left fun x hx => by rw [CS.put_lp s f lp cv lv P hm hx]
    rw [e1]
    have e2 : ([(f, ws)].map fun x => Value.pointer (some ⟨(s.put f lp cv lv).lp x.1, 0, none⟩)) = [.pointer (some ⟨lp, 0, none⟩)] := by simp [CS.put]
    rw [e2]
    exact h8
  · intro i hi
    have hcs : i < c.size := by
      rcases Nat.lt_or_ge i c.size with h1 | h1
      · exact h1
      · have := hc2 i hi; rw [Array.getElem?_eq_none h1] at this; cases this
    by_cases hif : i = f
    · subst hif
      rw [Array.getElem?_setIfInBounds_self_of_lt hcs]
      simp [ofCell, CS.put]
    · rw [Array.getElem?_setIfInBounds_ne (Ne.symm hif), hc2 i hi]
      simp only [ofCell, CS.put, List.map_append, List.map_cons, List.map_nil, List.mem_append, List.mem_singleton, hif, or_false, if_false]
  · intro i hi
    rcases Nat.lt_or_ge i P.length with h1 | h1
    · have e1 : (P ++ [(f, ws)])[i] = P[i] := List.getElem_append_left h1
      rw [e1, CS.put_lp s f lp cv lv P hm (List.getElem_mem h1)]
      have e2 : fromOf (P ++ [(f, ws)]) i = fromOf P i := by unfold fromOf; rw [List.take_append_of_le_length (by omega)]
      rw [e2]
      obtain ⟨n1, n2, n3⟩ := lie_ne _ (List.getElem_mem h1)
      refine keep (r12.heap (h.lie i h1) (by simp)) n2 n1 (fun e => (nl _ e).2.2 _ (List.getElem_mem h1) rfl) (fun e => (nc _ e).2.2 _ (List.getElem_mem h1) rfl)
    · have hi' : i = P.length := by simp at hi; omega
      subst hi'
      have e1 : (P ++ [(f, ws)])[P.length] = (f, ws) := by simp
      rw [e1]
      have e2 : fromOf (P ++ [(f, ws)]) P.length = (flat P).length := by unfold fromOf; rw [List.take_left']; rfl
      rw [e2]
      have e3 : (s.put f lp cv lv).lp f = lp := by simp [CS.put]
      rw [e3]
      exact keep hl2 lpn.2.2.1 lpn.2.2.2 lpn.1 lpn.2.1
  · refine ⟨?_, ?_, ?_, h.ok.few⟩
    · rw [List.map_append, List.nodup_append]
      refine ⟨h.ok.nd, by simp, ?_⟩
      intro a ha b hb
      simp at hb
      subst hb
      exact fun e => hm (e ▸ ha)
    · intro x hx
      rcases List.mem_append.1 hx with hx | hx
      · exact h.ok.lt x hx
      · simp at hx; subst hx; exact ⟨hf, hws, hlt⟩
    · rw [flat_app, flat_one, List.length_append]; exact hroom
  · intro k hk
    rcases hk with rfl | rfl | hk | hk | ⟨x, hx, rfl⟩
    · exact .inl (.inl rfl)
    · exact .inl (.inr (.inl rfl))
    · rcases hn7 k hk with h1 | h1
      · exact .inl (.inr (.inr (.inl h1)))
      · exact .inr (by omega)
    · rcases hn5 k hk with h1 | h1
      · exact .inl (.inr (.inr (.inr (.inl h1))))
      · exact .inr (by omega)
    · rcases List.mem_append.1 hx with hx | hx
      · rw [CS.put_lp s f lp cv lv P hm hx]; exact .inl (.inr (.inr (.inr (.inr ⟨x, hx, rfl⟩))))
      · simp at hx; subst hx
        exact .inr (by simp [CS.put]; omega)
  · have t1 : Fr (foot s P) w1 w3 := (r12.to (T := foot s P)).trans (r23.mono fun k hk _ => by simp at hk; exact .inr (.inl hk))
    have t2 : Fr (foot s P) w1 w6 := (t1.trans (r35.mono fun k hk _ => .inr (.inr (.inr (.inl hk))))).trans (r56.mono fun k hk _ => by simp at hk; exact .inl hk)
    exact (t2.trans (r67.mono fun k hk _ => .inr (.inr (.inl hk)))).trans (r78.mono fun k hk _ => by simp at hk; exact .inl hk)

end Go.Proofs.Ytpgmfifieilhkaa

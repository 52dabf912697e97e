import Derived.Test.YtpgmfifieilhkaaL5
namespace Go.Proofs.Ytpgmfifieilhkaa
open Go.RowKit

attribute [local go_sem] Program.isFuncB Program.isSliceB

variable {w w' w'' w0 : World} {words cb fb : Nat} {P P' P'' : List (Nat × List Nat)} {s s' : CS} {va vw va' vw' : Value} {aL wL : List Nat} {F : Nat → Nat}

def i64s (l : List Nat) : List Value := l.map fun (n : Nat) => .int .i64 n
theorem i64s_len (l : List Nat) : (i64s l).length = l.length := by simp [i64s]
theorem Try.info3 : (Try.prog.info? 3).map (fun i => (i.zero, i.size, i.bytes)) = some (some (.int .i64 0), 1, 8) := by kernel_rfl

structure St (w0 w : World) (words : Nat) (P : List (Nat × List Nat)) (s : CS) (cb : Nat) (va vw : Value) (aL wL : List Nat) (fb : Nat) (F : Nat → Nat) : Prop where
  k : Keeps w0 w words P s cb
  all : w.ownsRow w0.heap.size 52 1 va aL.length (u32s aL)
  who : w.ownsRow w0.heap.size 3 1 vw wL.length (i64s wL)
  fst : ∃ cells, w.heap[fb]? = some (.cells cells 3 (0, 0)) ∧ ∀ f, f < 64 → cells[f]? = some (.int .i64 (F f))
  apA : ∀ k, va.ownBlock = some k → ¬ foot s P k ∧ k ≠ fb
  apW : ∀ k, vw.ownBlock = some k → ¬ foot s P k ∧ k ≠ fb ∧ va.ownBlock ≠ some k
  apF : ¬ foot s P fb ∧ w0.heap.size ≤ fb

theorem St.go (h : St w0 w words P s cb va vw aL wL fb F) (k : CTo w w' words P s P' s') : St w0 w' words P' s' cb va vw aL wL fb F := by
  have hft : ∀ {i : Nat}, i < w.heap.size → ¬ foot s P i → ¬ foot s' P' i := fun hi hn hf => by
    rcases k.ft _ hf with h1 | h1
    · exact hn h1
    · omega
  obtain ⟨cells, hc, hF⟩ := h.fst
  exact ⟨h.k.go k, owns_fr h.all k.fr (fun i hi => (h.apA i hi).1), owns_fr h.who k.fr (fun i hi => (h.apW i hi).1), ⟨cells, k.fr.heap hc h.apF.1, hF⟩,
    fun i hi => ⟨hft (h.all.lt i hi).2 (h.apA i hi).1, (h.apA i hi).2⟩, fun i hi => ⟨hft (h.who.lt i hi).2 (h.apW i hi).1, (h.apW i hi).2⟩,
    hft (Array.getElem?_eq_some_iff.1 hc).1 h.apF.1, h.apF.2⟩

theorem St.stay (h : St w0 w words P s cb va vw aL wL fb F) (k : Fr no w w') : St w0 w' words P s cb va vw aL wL fb F := by
  obtain ⟨cells, hc, hF⟩ := h.fst
  exact ⟨h.k.stay k, owns_fr h.all k (by simp), owns_fr h.who k (by simp), ⟨cells, k.heap hc (by simp), hF⟩, h.apA, h.apW, h.apF⟩

theorem St.appA {x : Nat} (h : St w0 w words P s cb va vw aL wL fb F) (ho : w'.ownsRow w0.heap.size 52 1 va' (aL.length + 1) (u32s aL ++ [.int .u32 x])) (hg : w.grownBy w' va.ownBlock)
    (hb : ∀ k, va'.ownBlock = some k → va.ownBlock = some k ∨ k = w.heap.size) : St w0 w' words P s cb va' vw (aL ++ [x]) wL fb F := by
  have hr : Fr (fun k => va.ownBlock = some k) w w' := (Fr.refl _ w).grown hg (fun k hk => .inl hk)
  obtain ⟨cells, hc, hF⟩ := h.fst
  have hfb := (Array.getElem?_eq_some_iff.1 hc).1
  refine ⟨⟨h.k.c.fr hr (fun i hi he => (h.apA i he).1 hi), h.k.cb, h.k.new, h.k.fr.trans (far_of hr fun i hi => (h.all.lt i hi).1)⟩, by simpa [u32s] using ho, owns_fr h.who hr (fun i hi he => (h.apW i hi).2.2 he),
    ⟨cells, hr.heap hc (fun he => (h.apA _ he).2 rfl), hF⟩, fun i hi => ?_, fun i hi => ⟨(h.apW i hi).1, (h.apW i hi).2.1, fun he => ?_⟩, h.apF⟩
  · rcases hb i hi with h1 | rfl
    · exact h.apA i h1
    · exact ⟨fun hf => by have := h.k.c.lt _ hf; omega, by omega⟩
  · rcases hb i he with h1 | rfl
    · exact (h.apW i hi).2.2 h1
    · have := (h.who.lt _ hi).2; omega

theorem St.appW {x : Nat} (h : St w0 w words P s cb va vw aL wL fb F) (ho : w'.ownsRow w0.heap.size 3 1 vw' (wL.length + 1) (i64s wL ++ [.int .i64 x])) (hg : w.grownBy w' vw.ownBlock)
    (hb : ∀ k, vw'.ownBlock = some k → vw.ownBlock = some k ∨ k = w.heap.size) : St w0 w' words P s cb va vw' aL (wL ++ [x]) fb F := by
  have hr : Fr (fun k => vw.ownBlock = some k) w w' := (Fr.refl _ w).grown hg (fun k hk => .inl hk)
  obtain ⟨cells, hc, hF⟩ := h.fst
  have hfb := (Array.getElem?_eq_some_iff.1 hc).1
  refine ⟨⟨h.k.c.fr hr (fun i hi he => (h.apW i he).1 hi), h.k.cb, h.k.new, h.k.fr.trans (far_of hr fun i hi => (h.who.lt i hi).1)⟩, owns_fr h.all hr (fun i hi he => (h.apW i he).2.2 hi), by simpa [i64s] using ho,
    ⟨cells, hr.heap hc (fun he => (h.apW _ he).2.1 rfl), hF⟩, h.apA, fun i hi => ?_, h.apF⟩
  rcases hb i hi with h1 | rfl
  · exact h.apW i h1
  · exact ⟨fun hf => by have := h.k.c.lt _ hf; omega, by omega, fun he => by have := (h.all.lt _ he).2; omega⟩

theorem St.put1 {f v : Nat} (h : St w0 w words P s cb va vw aL wL fb F) (hf : f < 64) :
    St w0 (w.setCell ⟨fb, f, none⟩ (.int .i64 v)) words P s cb va vw aL wL fb (fun g => if g = f then v else F g) := by
  have hr : Fr (only [fb]) w (w.setCell ⟨fb, f, none⟩ (.int .i64 v)) := (Fr.refl _ _).setCell _ _ (.inl (by simp))
  obtain ⟨cells, hc, hF⟩ := h.fst
  have hsz : f < cells.size := by
    rcases Nat.lt_or_ge f cells.size with h1 | h1
    · exact h1
    · have := hF f hf; rw [Array.getElem?_eq_none h1] at this; cases this
  refine ⟨⟨h.k.c.fr hr (fun i hi he => h.apF.1 (by simp at he; exact he ▸ hi)), h.k.cb, h.k.new, h.k.fr.trans (far_of hr fun i hi => by simp at hi; rw [hi]; exact h.apF.2)⟩,
    owns_fr h.all hr (fun i hi he => (h.apA i hi).2 (by simpa using he)), owns_fr h.who hr (fun i hi he => (h.apW i hi).2.1 (by simpa using he)), ⟨_, heap_setCell hc, fun g hg => ?_⟩, h.apA, h.apW, h.apF⟩
  by_cases hgf : g = f
  · subst hgf
    rw [Array.getElem?_setIfInBounds_self_of_lt hsz, if_pos rfl]
  · rw [Array.getElem?_setIfInBounds_ne (Ne.symm hgf), if_neg hgf, hF g hg]

/-! ### who has which word, and where a function begins -/
def whos (P : List (Nat × List Nat)) : List Nat := P.flatMap fun x => List.replicate x.2.length x.1
theorem whos_len : ∀ P : List (Nat × List Nat), (whos P).length = (flat P).length
  | [] => rfl
  | (f, ws) :: P => by
    have := whos_len P
    simp only [whos, flat, List.flatMap_cons, List.length_append, List.length_replicate] at this ⊢
    omega
theorem whos_app (f : Nat) (ws : List Nat) : whos (P ++ [(f, ws)]) = whos P ++ List.replicate ws.length f := by simp [whos]
theorem who_get : ∀ (P : List (Nat × List Nat)) (n : Nat) (h : n < (whos P).length), who P n = (whos P)[n]
  | [], n, h => by simp [whos] at h
  | (f, ws) :: P, n, h => by
    have e : whos ((f, ws) :: P) = List.replicate ws.length f ++ whos P := by simp [whos]
    unfold who
    by_cases hn : n < ws.length
    · rw [if_pos hn]
      simp only [e]
      rw [List.getElem_append_left (by simpa using hn)]
      simp
    · rw [if_neg hn]
      simp only [e]
      rw [List.getElem_append_right (by simpa using hn)]
      simp only [List.length_replicate]
      exact who_get P _ (by simp only [e, List.length_append, List.length_replicate] at h; omega)

def firstOf : Nat → List (Nat × List Nat) → Nat → Nat
  | _, [], _ => 0
  | o, (g, ws) :: P, f => if g = f then o + 1 else firstOf (o + ws.length) P f
theorem firstOf_app : ∀ (P : List (Nat × List Nat)) (o g f : Nat) (ws : List Nat), g ∉ P.map (·.1) → firstOf o (P ++ [(g, ws)]) f = if f = g then o + (flat P).length + 1 else firstOf o P f
  | [], o, g, f, ws, _ => by
    by_cases h : g = f
    · subst h; simp [firstOf, flat]
    · simp [firstOf, h, Ne.symm h]
  | (k, us) :: P, o, g, f, ws, hm => by
    have hk : k ≠ g := fun e => hm (by simp [e])
    have ih := firstOf_app P (o + us.length) g f ws (fun h => hm (by simp at h ⊢; exact .inr h))
    have e : (flat ((k, us) :: P)).length = us.length + (flat P).length := by simp [flat]
    simp only [List.cons_append, firstOf, ih, e]
    by_cases h : k = f
    · have : f ≠ g := h ▸ hk
      simp [h, this]
    · simp only [if_neg h]
      split <;> omega
theorem firstOf_not : ∀ (P : List (Nat × List Nat)) (o f : Nat), f ∉ P.map (·.1) → firstOf o P f = 0
  | [], _, _, _ => rfl
  | (k, us) :: P, o, f, h => by
    have hk : k ≠ f := fun e => h (by simp [e])
    simp only [firstOf, if_neg hk]
    exact firstOf_not P _ f (fun h' => h (by simp at h' ⊢; exact .inr h'))
theorem firstOf_at : ∀ (P : List (Nat × List Nat)) (o i : Nat) (hi : i < P.length), (P.map (·.1)).Nodup → firstOf o P P[i].1 = o + fromOf P i + 1
  | (k, us) :: P, o, 0, _, _ => by simp [firstOf, fromOf, flat]
  | (k, us) :: P, o, i + 1, hi, hnd => by
    have hnd' := List.nodup_cons.1 hnd
    have hi' : i < P.length := by simpa using hi
    have hk : k ≠ P[i].1 := fun e => hnd'.1 (by
      have := List.mem_map_of_mem (f := (·.1)) (List.getElem_mem hi')
      exact e ▸ this)
    have e : fromOf ((k, us) :: P) (i + 1) = us.length + fromOf P i := by simp [fromOf, flat]
    simp only [List.getElem_cons_succ, firstOf, if_neg hk, e]
    rw [firstOf_at P (o + us.length) i hi' hnd'.2]
    omega
/-- what Address tells, by where it begins -/
theorem addr_first (hnd : (P.map (·.1)).Nodup) {f : Nat} {a : Nat} {b : Bool} (h : addrSpec P f a b) : b = decide (0 < firstOf 0 P f) ∧ (b = true → a = adr (firstOf 0 P f - 1)) := by
  rcases h with ⟨i, hi, e, rfl, rfl⟩ | ⟨hno, rfl, rfl⟩
  · obtain rfl : P[i].1 = f := by omega
    rw [firstOf_at P 0 i hi hnd]
    simp
  · rw [firstOf_not P 0 f]
    · simp
    · intro hm
      obtain ⟨i, hi, he⟩ := idx_of hm
      exact hno i hi (by omega)

end Go.Proofs.Ytpgmfifieilhkaa

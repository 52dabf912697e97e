/- A region that draws its order in which two rows grow (law24). -/
import Derived.Test.YtjpkmaacalelcaaDoorY9
set_option linter.unusedSimpArgs false
set_option linter.unusedVariables false
set_option linter.unusedSectionVars false
set_option linter.unnecessarySimpa false
namespace Go.Proofs.YtjpkmaacalelcaaDoor
open Go.RowKit Go.Ty Go.Deep

variable {w w' w'' w0 : World}

/-- what holds while the two rows grow, in whatever order -/
structure ApJ (W : World) (B0 : Nat) (X6 X7 : Value) (n : Nat) (LP LM : List Value) (U m1 m2 : Value) (x : Nat → Value) (dn : Nat → Bool) (w : World) : Prop where
  fr : Fr (fun k => X6.ownBlock = some k ∨ X7.ownBlock = some k) W w
  i0 : dn 0 = true → x 31 = X6
  i1 : dn 1 = true → x 32 = U
  i2 : dn 2 = true → ∃ b, W.heap.size ≤ b ∧ x 33 = .slice (some ⟨b, 0, none⟩) 1 1 ∧ w.heap[b]? = some (.cells #[U] 3 (0, 0))
  a3 : dn 3 = false → w.ownsRow B0 3 1 X6 n LP
  b3 : dn 3 = true → ∃ ga gc, x 34 = .slice ga (n + 1) gc ∧ w.ownsRow B0 3 1 (.slice ga (n + 1) gc) (n + 1) (LP ++ [U]) ∧ ∀ k, (Value.slice ga (n + 1) gc).ownBlock = some k → X6.ownBlock = some k ∨ W.heap.size ≤ k
  i4 : dn 4 = true → x 35 = X7
  i5 : dn 5 = true → x 36 = .agg #[m1, m2]
  i6 : dn 6 = true → ∃ b, W.heap.size ≤ b ∧ x 37 = .slice (some ⟨b, 0, none⟩) 1 1 ∧ w.heap[b]? = some (.cells #[m1, m2] 60 (0, 0))
  a7 : dn 7 = false → w.ownsRow B0 60 2 X7 n LM
  b7 : dn 7 = true → ∃ ga gc, x 38 = .slice ga (n + 1) gc ∧ w.ownsRow B0 60 2 (.slice ga (n + 1) gc) (n + 1) (LM ++ [m1, m2]) ∧ ∀ k, (Value.slice ga (n + 1) gc).ownBlock = some k → X7.ownBlock = some k ∨ W.heap.size ≤ k
  ne : dn 3 = true → dn 7 = true → ∀ k, (x 34).ownBlock = some k → (x 38).ownBlock ≠ some k
  c6 : dn 8 = false → x 6 = X6
  c7 : dn 9 = false → x 7 = X7
  d8 : dn 8 = true → x 6 = x 34 ∧ dn 3 = true ∧ dn 0 = true
  d9 : dn 9 = true → x 7 = x 38 ∧ dn 7 = true ∧ dn 4 = true

section
variable {W : World} {B0 : Nat} {X6 X7 : Value} {n : Nat} {LP LM : List Value} {U m1 m2 : Value} {x : Nat → Value} {dn : Nat → Bool}
theorem ApJ.kept (h : ApJ W B0 X6 X7 n LP LM U m1 m2 x dn w) (r : Fr no w w') : ApJ W B0 X6 X7 n LP LM U m1 m2 x dn w' := by
  refine ⟨h.fr.trans r.to, h.i0, h.i1, fun hd => ?_, fun hd => owns_fr (h.a3 hd) r (by simp), fun hd => ?_, h.i4, h.i5, fun hd => ?_, fun hd => owns_fr (h.a7 hd) r (by simp), fun hd => ?_, h.ne, h.c6, h.c7, h.d8, h.d9⟩
  · obtain ⟨b, h1, h2, h3⟩ := h.i2 hd; exact ⟨b, h1, h2, r.heap h3 (by simp)⟩
  · obtain ⟨ga, gc, h1, h2, h3⟩ := h.b3 hd; exact ⟨ga, gc, h1, owns_fr h2 r (by simp), h3⟩
  · obtain ⟨b, h1, h2, h3⟩ := h.i6 hd; exact ⟨b, h1, h2, r.heap h3 (by simp)⟩
  · obtain ⟨ga, gc, h1, h2, h3⟩ := h.b7 hd; exact ⟨ga, gc, h1, owns_fr h2 r (by simp), h3⟩
theorem ApJ.o8 (h : ApJ W B0 X6 X7 n LP LM U m1 m2 x dn w) (hd : dn 0 = false) : dn 8 = false := by
  cases h8 : dn 8 with
  | false => rfl
  | true => rw [(h.d8 h8).2.2] at hd; cases hd
theorem ApJ.o9 (h : ApJ W B0 X6 X7 n LP LM U m1 m2 x dn w) (hd : dn 4 = false) : dn 9 = false := by
  cases h8 : dn 9 with
  | false => rfl
  | true => rw [(h.d9 h8).2.2] at hd; cases hd
theorem ApJ.o83 (h : ApJ W B0 X6 X7 n LP LM U m1 m2 x dn w) (hd : dn 3 = false) : dn 8 = false := by
  cases h8 : dn 8 with
  | false => rfl
  | true => rw [(h.d8 h8).2.1] at hd; cases hd
theorem ApJ.o97 (h : ApJ W B0 X6 X7 n LP LM U m1 m2 x dn w) (hd : dn 7 = false) : dn 9 = false := by
  cases h8 : dn 9 with
  | false => rfl
  | true => rw [(h.d9 h8).2.1] at hd; cases hd
theorem up_or {a b : Bool} (h : b = true) : (a || b) = true := by simp [h]
theorem ApJ.s0 (h : ApJ W B0 X6 X7 n LP LM U m1 m2 x dn w) : ApJ W B0 X6 X7 n LP LM U m1 m2 (fun k => if k = 31 then X6 else x k) (fun k => k == 0 || dn k) w :=
  ⟨h.fr, fun _ => rfl, h.i1, h.i2, h.a3, h.b3, h.i4, h.i5, h.i6, h.a7, h.b7, h.ne, h.c6, h.c7, fun e => ⟨(h.d8 e).1, (h.d8 e).2.1, rfl⟩, fun e => ⟨(h.d9 e).1, (h.d9 e).2.1, up_or (h.d9 e).2.2⟩⟩
theorem ApJ.s1 (h : ApJ W B0 X6 X7 n LP LM U m1 m2 x dn w) : ApJ W B0 X6 X7 n LP LM U m1 m2 (fun k => if k = 32 then U else x k) (fun k => k == 1 || dn k) w :=
  ⟨h.fr, h.i0, fun _ => rfl, h.i2, h.a3, h.b3, h.i4, h.i5, h.i6, h.a7, h.b7, h.ne, h.c6, h.c7, fun e => ⟨(h.d8 e).1, (h.d8 e).2.1, up_or (h.d8 e).2.2⟩, fun e => ⟨(h.d9 e).1, (h.d9 e).2.1, up_or (h.d9 e).2.2⟩⟩
theorem ApJ.s4 (h : ApJ W B0 X6 X7 n LP LM U m1 m2 x dn w) : ApJ W B0 X6 X7 n LP LM U m1 m2 (fun k => if k = 35 then X7 else x k) (fun k => k == 4 || dn k) w :=
  ⟨h.fr, h.i0, h.i1, h.i2, h.a3, h.b3, fun _ => rfl, h.i5, h.i6, h.a7, h.b7, h.ne, h.c6, h.c7, fun e => ⟨(h.d8 e).1, (h.d8 e).2.1, up_or (h.d8 e).2.2⟩, fun e => ⟨(h.d9 e).1, (h.d9 e).2.1, rfl⟩⟩
theorem ApJ.s5 (h : ApJ W B0 X6 X7 n LP LM U m1 m2 x dn w) : ApJ W B0 X6 X7 n LP LM U m1 m2 (fun k => if k = 36 then .agg #[m1, m2] else x k) (fun k => k == 5 || dn k) w :=
  ⟨h.fr, h.i0, h.i1, h.i2, h.a3, h.b3, h.i4, fun _ => rfl, h.i6, h.a7, h.b7, h.ne, h.c6, h.c7, fun e => ⟨(h.d8 e).1, (h.d8 e).2.1, up_or (h.d8 e).2.2⟩, fun e => ⟨(h.d9 e).1, (h.d9 e).2.1, up_or (h.d9 e).2.2⟩⟩
theorem ApJ.s2 (h : ApJ W B0 X6 X7 n LP LM U m1 m2 x dn w) : ApJ W B0 X6 X7 n LP LM U m1 m2 (fun k => if k = 33 then .slice (some ⟨w.heap.size, 0, none⟩) 1 1 else x k) (fun k => k == 2 || dn k) (w.alloc (.cells #[U] 3)) := by
  have g := h.kept ((Fr.refl no w).alloc (.cells #[U] 3))
  exact ⟨g.fr, g.i0, g.i1, fun _ => ⟨w.heap.size, h.fr.size, rfl, heap_new _ _⟩, g.a3, g.b3, g.i4, g.i5, g.i6, g.a7, g.b7, g.ne, g.c6, g.c7, fun e => ⟨(h.d8 e).1, (h.d8 e).2.1, up_or (h.d8 e).2.2⟩, fun e => ⟨(h.d9 e).1, (h.d9 e).2.1, up_or (h.d9 e).2.2⟩⟩
theorem ApJ.s6 (h : ApJ W B0 X6 X7 n LP LM U m1 m2 x dn w) : ApJ W B0 X6 X7 n LP LM U m1 m2 (fun k => if k = 37 then .slice (some ⟨w.heap.size, 0, none⟩) 1 1 else x k) (fun k => k == 6 || dn k) (w.alloc (.cells #[m1, m2] 60)) := by
  have g := h.kept ((Fr.refl no w).alloc (.cells #[m1, m2] 60))
  exact ⟨g.fr, g.i0, g.i1, g.i2, g.a3, g.b3, g.i4, g.i5, fun _ => ⟨w.heap.size, h.fr.size, rfl, heap_new _ _⟩, g.a7, g.b7, g.ne, g.c6, g.c7, fun e => ⟨(h.d8 e).1, (h.d8 e).2.1, up_or (h.d8 e).2.2⟩, fun e => ⟨(h.d9 e).1, (h.d9 e).2.1, up_or (h.d9 e).2.2⟩⟩
theorem ApJ.s8 (h : ApJ W B0 X6 X7 n LP LM U m1 m2 x dn w) (d3 : dn 3 = true) (d0 : dn 0 = true) : ApJ W B0 X6 X7 n LP LM U m1 m2 (fun k => if k = 6 then x 34 else x k) (fun k => k == 8 || dn k) w :=
  ⟨h.fr, h.i0, h.i1, h.i2, h.a3, h.b3, h.i4, h.i5, h.i6, h.a7, h.b7, h.ne, fun e => (by cases e), h.c7, fun _ => ⟨rfl, up_or d3, up_or d0⟩, fun e => ⟨(h.d9 e).1, (h.d9 e).2.1, up_or (h.d9 e).2.2⟩⟩
theorem ApJ.s9 (h : ApJ W B0 X6 X7 n LP LM U m1 m2 x dn w) (d7 : dn 7 = true) (d4 : dn 4 = true) : ApJ W B0 X6 X7 n LP LM U m1 m2 (fun k => if k = 7 then x 38 else x k) (fun k => k == 9 || dn k) w :=
  ⟨h.fr, h.i0, h.i1, h.i2, h.a3, h.b3, h.i4, h.i5, h.i6, h.a7, h.b7, h.ne, h.c6, fun e => (by cases e), fun e => ⟨(h.d8 e).1, (h.d8 e).2.1, up_or (h.d8 e).2.2⟩, fun _ => ⟨rfl, up_or d7, up_or d4⟩⟩
theorem ApJ.s3 (h : ApJ W B0 X6 X7 n LP LM U m1 m2 x dn w) (hNE : ∀ k, X6.ownBlock = some k → X7.ownBlock ≠ some k) (hL6 : ∀ k, X6.ownBlock = some k → k < W.heap.size) (hL7 : ∀ k, X7.ownBlock = some k → k < W.heap.size) (hd3 : dn 3 = false)
    {ga : Option Addr} {gc : Nat} (ho : w'.ownsRow B0 3 1 (.slice ga (n + 1) gc) (n + 1) (LP ++ [U])) (hg : w.grownBy w' X6.ownBlock) (hb : ∀ k, (Value.slice ga (n + 1) gc).ownBlock = some k → X6.ownBlock = some k ∨ k = w.heap.size) :
    ApJ W B0 X6 X7 n LP LM U m1 m2 (fun k => if k = 34 then .slice ga (n + 1) gc else x k) (fun k => k == 3 || dn k) w' := by
  have r : Fr (fun k => X6.ownBlock = some k) w w' := (Fr.refl _ w).grown hg (fun k hk => .inl hk)
  have h8 := h.o83 hd3
  refine ⟨h.fr.trans (r.mono fun k hk _ => .inl hk), h.i0, h.i1, fun hd => ?_, fun hd => (by cases hd), fun _ => ⟨ga, gc, rfl, ho, fun k hk => (hb k hk).imp id (fun e => by have := h.fr.size; omega)⟩, h.i4, h.i5, fun hd => ?_, fun hd => owns_fr (h.a7 hd) r (fun k hk e => hNE k e hk), fun hd => ?_, fun _ hd k hk => ?_, h.c6, h.c7, fun e => (by have e : dn 8 = true := e; rw [h8] at e; cases e), fun e => ⟨(h.d9 e).1, (h.d9 e).2.1, up_or (h.d9 e).2.2⟩⟩
  · obtain ⟨b, h1, h2, h3⟩ := h.i2 hd; exact ⟨b, h1, h2, r.heap h3 (fun e => by have := hL6 b e; omega)⟩
  · obtain ⟨b, h1, h2, h3⟩ := h.i6 hd; exact ⟨b, h1, h2, r.heap h3 (fun e => by have := hL6 b e; omega)⟩
  · obtain ⟨ga', gc', h1, h2, h3⟩ := h.b7 hd
    refine ⟨ga', gc', h1, owns_fr h2 r (fun k hk e => ?_), h3⟩
    rcases h3 k hk with h4 | h4
    · exact hNE k e h4
    · have := hL6 k e; omega
  · obtain ⟨ga', gc', h1, h2, h3⟩ := h.b7 hd
    show (x 38).ownBlock ≠ some k
    rw [h1]
    intro e
    have hlt := (h2.lt k e).2
    rcases hb k hk with h4 | h4
    · rcases h3 k e with h5 | h5
      · exact hNE k h4 h5
      · have := hL6 k h4; omega
    · omega
theorem ApJ.s7 (h : ApJ W B0 X6 X7 n LP LM U m1 m2 x dn w) (hNE : ∀ k, X6.ownBlock = some k → X7.ownBlock ≠ some k) (hL6 : ∀ k, X6.ownBlock = some k → k < W.heap.size) (hL7 : ∀ k, X7.ownBlock = some k → k < W.heap.size) (hd7 : dn 7 = false)
    {ga : Option Addr} {gc : Nat} (ho : w'.ownsRow B0 60 2 (.slice ga (n + 1) gc) (n + 1) (LM ++ [m1, m2])) (hg : w.grownBy w' X7.ownBlock) (hb : ∀ k, (Value.slice ga (n + 1) gc).ownBlock = some k → X7.ownBlock = some k ∨ k = w.heap.size) :
    ApJ W B0 X6 X7 n LP LM U m1 m2 (fun k => if k = 38 then .slice ga (n + 1) gc else x k) (fun k => k == 7 || dn k) w' := by
  have r : Fr (fun k => X7.ownBlock = some k) w w' := (Fr.refl _ w).grown hg (fun k hk => .inl hk)
  have h9 := h.o97 hd7
  refine ⟨h.fr.trans (r.mono fun k hk _ => .inr hk), h.i0, h.i1, fun hd => ?_, fun hd => owns_fr (h.a3 hd) r (fun k hk e => hNE k hk e), fun hd => ?_, h.i4, h.i5, fun hd => ?_, fun hd => (by cases hd), fun _ => ⟨ga, gc, rfl, ho, fun k hk => (hb k hk).imp id (fun e => by have := h.fr.size; omega)⟩, fun hd _ k hk e => ?_, h.c6, h.c7, fun e => ⟨(h.d8 e).1, (h.d8 e).2.1, up_or (h.d8 e).2.2⟩, fun e => (by have e : dn 9 = true := e; rw [h9] at e; cases e)⟩
  · obtain ⟨b, h1, h2, h3⟩ := h.i2 hd; exact ⟨b, h1, h2, r.heap h3 (fun e => by have := hL7 b e; omega)⟩
  · obtain ⟨ga', gc', h1, h2, h3⟩ := h.b3 hd
    refine ⟨ga', gc', h1, owns_fr h2 r (fun k hk e => ?_), h3⟩
    rcases h3 k hk with h4 | h4
    · exact hNE k h4 e
    · have := hL7 k e; omega
  · obtain ⟨b, h1, h2, h3⟩ := h.i6 hd; exact ⟨b, h1, h2, r.heap h3 (fun e => by have := hL7 b e; omega)⟩
  · obtain ⟨ga', gc', h1, h2, h3⟩ := h.b3 hd
    have hk : (x 34).ownBlock = some k := hk
    rw [h1] at hk
    have hlt := (h2.lt k hk).2
    rcases hb k e with h4 | h4
    · rcases h3 k hk with h5 | h5
      · exact hNE k h5 h4
      · have := hL7 k h4; omega
    · omega
end

end Go.Proofs.YtjpkmaacalelcaaDoor

/- Whoever walks through an accepted function: the plain law (law12). -/
import Derived.Test.YtofahdjnejodjaaGreatV6
import Derived.Test.YtofahdjnejodjaaGreatV9
set_option linter.unusedSimpArgs false
set_option linter.unusedVariables false
set_option linter.unusedSectionVars false
set_option linter.unnecessarySimpa false
namespace Go.Proofs.YtofahdjnejodjaaGreat
open Go.RowKit Go.Flow Go.Sure

variable {w w' w'' w0 : World}

theorem unset_none {is : List Ix} {ms : List Nat} : ∀ (i : Nat), (unsetL is ms i).1 < 0 → ∀ (k : Nat) (x : Ix) (m : Nat), is[k]? = some x → ms[k]? = some m → (readsI x).find? (badAt m) = none := by
  induction is generalizing ms with
  | nil => intro i h k x m hx; simp at hx
  | cons y is ih =>
    intro i h k x m hx hm
    cases ms with
    | nil => simp at hm
    | cons z ms =>
      unfold unsetL at h
      cases hf : (readsI y).find? (badAt z) with
      | some r => rw [hf] at h; simp at h; omega
      | none =>
        rw [hf] at h
        cases k with
        | zero =>
          simp at hx hm
          subst hx; subst hm
          exact hf
        | succ k => exact ih (i + 1) h k x m (by simpa using hx) (by simpa using hm)
theorem sure_reads {is : List Ix} {p : Nat} (h : (unsetOf is p).1 < 0) {k : Nat} {x : Ix} (hx : is[k]? = some x) {y : Int} (hy : y ∈ readsI x) (h0 : 0 ≤ y) (h64 : y < 64) : ¬ (p ≤ y.toNat ∧ Flow.Reach (gr (nx (fis is)) (wrN is) y.toNat) k) := by
  have T := sure_tells is.length p (nx (fis is)) (wrN is)
  have hk := (List.getElem?_eq_some_iff.1 hx).1
  have hkm : k < (sureL is.length p (nx (fis is)) (wrN is)).length := by rw [T.len]; exact hk
  have hn := unset_none (ms := sureL is.length p (nx (fis is)) (wrN is)) 0 h k x _ hx (List.getElem?_eq_getElem hkm)
  have hb := List.find?_eq_none.1 hn y hy
  intro hr
  have hu := (T.iff y.toNat k (by omega) hk).2 hr
  unfold un at hu
  rw [List.getD_eq_getElem?_getD, List.getElem?_eq_getElem hkm, Option.getD_some] at hu
  exact hb (by simp [badAt, hu])
theorem out_rng {r x : Int} (h : ¬ out1 r x = true) : 0 ≤ x ∧ x < r := by
  unfold out1 at h
  simp at h
  omega
theorem writes_in {i : Ix} {r a : Int} (h : ckIn i r a = 0) : wrI i = -1 ∨ (0 ≤ wrI i ∧ wrI i < r) := by
  have hf := ((fine_iff _ _ _ _ _ _ _ _).1 h).all
  rcases (fields_in [i.A, i.B, i.C] (sh i.o) ([], [], -1) (.inl rfl) (by simp)).1 with h1 | h1
  · exact .inl h1
  · exact .inr (out_rng fun h2 => hf (List.any_eq_true.2 ⟨_, List.mem_append.2 (.inl h1), h2⟩))
theorem reads_in {i : Ix} {r a : Int} (h : ckIn i r a = 0) : ∀ x ∈ readsI i, 0 ≤ x ∧ x < r := by
  have hf := ((fine_iff _ _ _ _ _ _ _ _).1 h).all
  intro x hx
  refine out_rng fun h2 => hf (List.any_eq_true.2 ⟨x, List.mem_append.2 ?_, h2⟩)
  unfold readsI readsOf at hx
  rcases List.mem_append.1 hx with hx | hx
  · exact .inl ((fields_in [i.A, i.B, i.C] (sh i.o) ([], [], -1) (.inl rfl) (by simp)).2 x hx)
  · split at hx
    · exact .inr hx
    · simp at hx

/-- where one is, and what was written ahead -/
structure WInv (n p : Nat) (nx : Nat → List Nat) (wr : Nat → Int) (k : Nat) (wl : List Bool) : Prop where
  lt : k < n
  len : wl.length = 64
  un : ∀ r, wl[r]? = some false → p ≤ r ∧ Flow.Reach (gr nx wr r) k
theorem WInv.start {n p : Nat} {nx : Nat → List Nat} {wr : Nat → Int} {wl : List Bool} (hn : 0 < n) (hl : wl.length = 64) (hp : ∀ r, r < p → wl[r]? = some true ∨ 64 ≤ r) : WInv n p nx wr 0 wl :=
  ⟨hn, hl, fun r hr => ⟨by
    apply Classical.byContradiction
    intro h
    rcases hp r (by omega) with h1 | h1
    · rw [h1] at hr; cases hr
    · have := (List.getElem?_eq_some_iff.1 hr).1; omega, Flow.Reach.zero⟩⟩
theorem WInv.read {n p : Nat} {nx : Nat → List Nat} {wr : Nat → Int} {k : Nat} {wl : List Bool} (h : WInv n p nx wr k wl) {y : Nat} (hy : y < 64) (hs : ¬ (p ≤ y ∧ Flow.Reach (gr nx wr y) k)) : wl[y]? = some true := by
  have hl : y < wl.length := by rw [h.len]; exact hy
  rw [List.getElem?_eq_getElem hl]
  cases hb : wl[y] with
  | true => rfl
  | false => exact absurd (h.un y (by rw [List.getElem?_eq_getElem hl, hb])) hs
theorem WInv.step {n p : Nat} {nx : Nat → List Nat} {wr : Nat → Int} {k x : Nat} {wl wl' : List Bool} (h : WInv n p nx wr k wl) (hx : x ∈ nx k) (hn : x < n) (hl : wl'.length = 64)
    (hw : ∀ r : Nat, wl'[r]? = some false → wl[r]? = some false ∧ wr k ≠ (r : Int)) : WInv n p nx wr x wl' :=
  ⟨hn, hl, fun r hr => by
    obtain ⟨h1, h2⟩ := hw r hr
    obtain ⟨h3, h4⟩ := h.un r h1
    exact ⟨h3, h4.step (by unfold gr; rw [if_neg h2]; exact hx)⟩⟩
theorem set_wrote {wl : List Bool} {z : Nat} (r : Nat) (h : (wl.set z true)[r]? = some false) : wl[r]? = some false ∧ ((z : Int) ≠ (r : Int)) := by
  rw [List.getElem?_set] at h
  by_cases e : z = r
  · rw [if_pos e] at h
    split at h <;> simp at h
  · rw [if_neg e] at h
    exact ⟨h, by omega⟩

end Go.Proofs.YtofahdjnejodjaaGreat

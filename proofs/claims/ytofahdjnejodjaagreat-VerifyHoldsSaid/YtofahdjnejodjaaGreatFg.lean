/- flow.Reached. -/
import Derived.Test.YtofahdjnejodjaaGreatFf
set_option linter.unusedSimpArgs false
set_option linter.unusedVariables false
set_option linter.unusedSectionVars false
set_option linter.unnecessarySimpa false
namespace Go.Proofs.YtofahdjnejodjaaGreat
open Go.RowKit Go.Flow

attribute [local go_sem] Program.isFuncB Program.isSliceB

variable {w w' w'' w0 : World}

/-- a stack: a cell that holds a row of the call's own, in another block -/
structure StackAt (w : World) (B sb : Nat) (st : List Nat) : Prop where
  at' : ∃ x : Value, w.heap[sb]? = some (.cells #[x] 45 (0, 0)) ∧ w.ownsRow B 3 1 x st.length (ints (nats st)) ∧ x.ownBlock ≠ some sb
theorem StackAt.frx {S : Nat → Prop} {B sb : Nat} {st : List Nat} (h : StackAt w B sb st) (r : Fr S w w') (h1 : ¬ S sb) (h2 : ∀ k, B ≤ k → k ≠ sb → ¬ S k) : StackAt w' B sb st := by
  obtain ⟨x, h3, h4, h5⟩ := h.at'
  exact ⟨x, r.heap h3 h1, owns_fr h4 r (fun k hk => h2 k (h4.lt k hk).1 (fun e => h5 (e ▸ hk))), h5⟩

/-- what is pending: one at hand, and the stack -/
def pend (b : Bool) (i : Nat) (st : List Nat) : List Nat := if b then i :: st else st
/-! ### the search, plainly -/
structure RInv (g : Nat → List Nat) (ob : List Bool) (pend : List Nat) : Prop where
  pr : ∀ k ∈ pend, Flow.Reach g k
  cl : ∀ k, ob[k]? = some true → Flow.Reach g k ∧ ∀ x ∈ g k, ob[x]? = some true ∨ x ∈ pend
  z : 0 ∈ pend ∨ ob[0]? = some true
theorem RInv.same {g : Nat → List Nat} {ob : List Bool} {p q : List Nat} (h : RInv g ob p) (hm : ∀ x, x ∈ p ↔ x ∈ q) : RInv g ob q :=
  ⟨fun k hk => h.pr k ((hm k).2 hk), fun k hk => ⟨(h.cl k hk).1, fun x hx => ((h.cl k hk).2 x hx).imp id (hm x).1⟩, h.z.imp (hm 0).1 id⟩
theorem RInv.start (g : Nat → List Nat) (n : Nat) : RInv g (List.replicate n false) [0] :=
  ⟨fun k hk => by simp at hk; subst hk; exact Flow.Reach.zero, fun k hk => by rw [List.getElem?_replicate] at hk; split at hk <;> simp at hk, .inl (by simp)⟩
theorem RInv.fresh {g : Nat → List Nat} {ob : List Bool} {st : List Nat} {i : Nat} (h : RInv g ob (i :: st)) (hi : i < ob.length) : RInv g (ob.set i true) (st ++ g i) := by
  have hri := h.pr i (by simp)
  have hkeep : ∀ x, ob[x]? = some true → (ob.set i true)[x]? = some true := fun x hx => by
    rw [List.getElem?_set]
    split
    · rename_i h1; subst h1; simp [hi]
    · exact hx
  refine ⟨fun k hk => ?_, fun k hk => ?_, ?_⟩
  · rcases List.mem_append.1 hk with hk | hk
    · exact h.pr k (by simp [hk])
    · exact Flow.Reach.step hri hk
  · rw [List.getElem?_set] at hk
    split at hk
    · rename_i h1; subst h1
      exact ⟨hri, fun x hx => .inr (List.mem_append.2 (.inr hx))⟩
    · obtain ⟨h1, h2⟩ := h.cl k hk
      refine ⟨h1, fun x hx => ?_⟩
      rcases h2 x hx with h3 | h3
      · exact .inl (hkeep x h3)
      · rcases List.mem_cons.1 h3 with h4 | h4
        · subst h4
          exact .inl (by rw [List.getElem?_set]; simp [hi])
        · exact .inr (List.mem_append.2 (.inl h4))
  · rcases h.z with h1 | h1
    · rcases List.mem_cons.1 h1 with h2 | h2
      · subst h2
        exact .inr (by rw [List.getElem?_set]; simp [hi])
      · exact .inl (List.mem_append.2 (.inl h2))
    · exact .inr (hkeep 0 h1)
theorem RInv.old {g : Nat → List Nat} {ob : List Bool} {st : List Nat} {i : Nat} (h : RInv g ob (i :: st)) (hi : ob[i]? = some true) : RInv g ob st := by
  refine ⟨fun k hk => h.pr k (by simp [hk]), fun k hk => ⟨(h.cl k hk).1, fun x hx => ?_⟩, ?_⟩
  · rcases (h.cl k hk).2 x hx with h3 | h3
    · exact .inl h3
    · rcases List.mem_cons.1 h3 with h4 | h4
      · subst h4; exact .inl hi
      · exact .inr h4
  · rcases h.z with h1 | h1
    · rcases List.mem_cons.1 h1 with h2 | h2
      · subst h2; exact .inr hi
      · exact .inl h2
    · exact .inr h1
theorem RInv.done {g : Nat → List Nat} {ob : List Bool} (h : RInv g ob []) (k : Nat) : ob[k]? = some true ↔ Flow.Reach g k := by
  refine ⟨fun hk => (h.cl k hk).1, fun hk => reach_least (S := fun k => ob[k]? = some true) ?_ ?_ hk⟩
  · exact h.z.resolve_left (by simp)
  · intro k x hk hx
    exact ((h.cl k hk).2 x hx).resolve_right (by simp)

/-- how many are not yet reached; how many lie on the stack; is there one at hand -/
def cntF (w : World) (og : Nat) : Nat := match w.heap[og]? with | some (.cells cs _ _) => cs.toList.countP (fun v => match v with | .bool b => !b | _ => false) | _ => 0
def lenS (w : World) (sb : Nat) : Nat := match w.heap[sb]? with | some (.cells cs _ _) => (match (cs[0]? : Option Value) with | some (.slice _ n _) => n | _ => 0) | _ => 0
def isT : Value → Nat | .bool true => 1 | _ => 0
def bools (l : List Bool) : List Value := l.map Value.bool
theorem cntF_at {og : Nat} {ob : List Bool} {t : TypeId} {z : Nat × Nat} (h : w.heap[og]? = some (.cells (bools ob).toArray t z)) : cntF w og = ob.countP (fun b => !b) := by
  unfold cntF
  rw [h]
  simp only [bools, List.countP_map]
  rfl
theorem lenS_at {sb n c : Nat} {a : Option Addr} {t : TypeId} {z : Nat × Nat} (h : w.heap[sb]? = some (.cells #[.slice a n c] t z)) : lenS w sb = n := by
  unfold lenS; rw [h]; rfl
theorem StackAt.len {B sb : Nat} {st : List Nat} (h : StackAt w B sb st) : lenS w sb = st.length := by
  obtain ⟨x, h3, h4, -⟩ := h.at'
  obtain ⟨xa, xc, rfl⟩ := owns_shape h4
  exact lenS_at h3
theorem countP_set {ob : List Bool} {i : Nat} (hi : ob[i]? = some false) : (ob.set i true).countP (fun b => !b) + 1 = ob.countP (fun b => !b) := by
  induction ob generalizing i with
  | nil => simp at hi
  | cons b l ih =>
    cases i with
    | zero => simp at hi; subst hi; simp
    | succ i =>
      have := ih (i := i) (by simpa using hi)
      simp only [List.set_cons_succ, List.countP_cons]
      omega

/-- what Reached answers -/
def ReachPost (w : World) (ck : Int) (l : List Fi) (e : Ending) (w' : World) : Prop :=
  ∃ u, e = .returned (.tuple #[u, .int .i64 ck]) ∧ (ck ≠ 0 → u = .slice none 0 0) ∧ (ck = 0 → ∃ ob : List Bool, ob.length = l.length ∧ Reads w' u 1 l.length (bools ob) ∧ ∀ k, ob[k]? = some true ↔ Flow.Reach (nx l) k) ∧ Fr no w w'
theorem ReachPost.bad {ck : Int} {l : List Fi} (h : ck ≠ 0) (r : Fr no w w') : ReachPost w ck l (.returned (.tuple #[.slice none 0 0, .int .i64 ck])) w' := ⟨_, rfl, fun _ => rfl, fun h0 => absurd h0 h, r⟩
theorem ReachPost.good {l : List Fi} {u : Value} {ob : List Bool} (h1 : ob.length = l.length) (h2 : Reads w' u 1 l.length (bools ob)) (h3 : ∀ k, ob[k]? = some true ↔ Flow.Reach (nx l) k) (r : Fr no w w') : ReachPost w 0 l (.returned (.tuple #[u, .int .i64 0])) w' :=
  ⟨_, rfl, fun h0 => absurd rfl h0, fun _ => ⟨ob, h1, h2, h3⟩, r⟩
theorem Tryz.infoBool : (Tryz.prog.info? 4).map (fun i => (i.zero, i.size, i.bytes)) = some (some (.bool false), 1, 1) := by kernel_rfl
theorem bools_rep (n : Nat) : bools (List.replicate n false) = List.replicate n (.bool false) := by simp [bools]

end Go.Proofs.YtofahdjnejodjaaGreat

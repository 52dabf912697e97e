/- module.Get's reader: function. -/
import Derived.Test.YtdngflhfhmnipaaGreatM12
import Derived.Test.YtdngflhfhmnipaaGreatM4
set_option linter.unusedSimpArgs false
set_option linter.unusedVariables false
set_option linter.unusedSectionVars false
set_option linter.unnecessarySimpa false
namespace Go.Proofs.YtdngflhfhmnipaaGreat
open Go.RowKit

attribute [local go_sem] Program.isFuncB Program.isSliceB

variable {w w' w'' w0 : World}

/-! ### code and functions of the call's own -/
def CodeOwn (w : World) (base : Nat) (v : Value) (is : List Ix) : Prop := ∃ l : List (Ix × Value), l.map Prod.fst = is ∧ w.ownsRow base 47 6 v l.length (cellsOf l) ∧ ∀ p ∈ l, w.ownsRow base 3 1 p.2 p.1.l.length (ints p.1.l)
/-- blocks of no such type have turned -/
def Odd (w : World) (S : Nat → Prop) (ts : List TypeId) : Prop := ∀ k, S k → w.heap.size ≤ k ∨ ∃ (cs : Array Value) (t : TypeId), w.heap[k]? = some (.cells cs t (0, 0)) ∧ t ∉ ts
theorem owns_odd {S : Nat → Prop} {ts : List TypeId} {base n z : Nat} {e : TypeId} {v : Value} {xs : List Value} (h : w.ownsRow base e z v n xs) (r : Fr S w w') (ho : Odd w S ts) (he : e ∈ ts) : w'.ownsRow base e z v n xs :=
  owns_fr h r (fun k hk hS => by
    rcases ho k hS with h1 | ⟨cs, t, h1, h2⟩
    · have := (h.lt k hk).2; omega
    · exact row_block_ne h h1 (fun e => h2 (e ▸ he)) hk)
theorem CodeOwn.odd {S : Nat → Prop} {ts : List TypeId} {base : Nat} {v : Value} {is : List Ix} (h : CodeOwn w base v is) (r : Fr S w w') (ho : Odd w S ts) (h1 : 47 ∈ ts) (h2 : 3 ∈ ts) : CodeOwn w' base v is := by
  obtain ⟨l, e, h3, h4⟩ := h
  exact ⟨l, e, owns_odd h3 r ho h1, fun p hp => owns_odd (h4 p hp) r ho h2⟩
theorem CodeOwn.fn {base : Nat} {v : Value} {is : List Ix} (h : CodeOwn w base v is) (r : Fr no w w') : CodeOwn w' base v is := h.odd (ts := [47, 3]) r (fun k hk => hk.elim) (by simp) (by simp)
theorem CodeOwn.read {base : Nat} {v : Value} {is : List Ix} (h : CodeOwn w base v is) : ∃ a c, v = .slice a is.length c ∧ CodeIn w a is := by
  obtain ⟨l, rfl, h1, h2⟩ := h
  obtain ⟨a, c, h3, h4⟩ := codeIn_owns h1 (fun p hp => owns_reads (h2 p hp))
  exact ⟨a, c, by rw [h3, List.length_map], h4⟩
structure FnsOwn (w : World) (base : Nat) (v : Value) (l : List FxV) : Prop where
  row : w.ownsRow base 44 4 v l.length (fCells l)
  code : ∀ p ∈ l, CodeOwn w base p.val p.1.c
theorem FnsOwn.odd {S : Nat → Prop} {base : Nat} {v : Value} {l : List FxV} (h : FnsOwn w base v l) (r : Fr S w w') (ho : Odd w S [44, 47, 3]) : FnsOwn w' base v l :=
  ⟨owns_odd h.row r ho (by simp), fun p hp => (h.code p hp).odd r ho (by simp) (by simp)⟩
theorem FnsOwn.fn {base : Nat} {v : Value} {l : List FxV} (h : FnsOwn w base v l) (r : Fr no w w') : FnsOwn w' base v l := h.odd r (fun k hk => hk.elim)
theorem CodeOwn.apart {base base' n z : Nat} {v u : Value} {is : List Ix} {e : TypeId} {xs : List Value} (h : CodeOwn w base v is) (hu : w.ownsRow base' e z u n xs) (h1 : e ≠ 47) (h2 : e ≠ 3) (r : Fr (fun k => u.ownBlock = some k) w w') : CodeOwn w' base v is := by
  obtain ⟨l, e, h3, h4⟩ := h
  exact ⟨l, e, owns_fr h3 r (fun k hk e => rows_ne h3 hu (fun q => h1 q.symm) k hk e), fun p hp => owns_fr (h4 p hp) r (fun k hk e => rows_ne (h4 p hp) hu (fun q => h2 q.symm) k hk e)⟩
theorem FnsOwn.app {base : Nat} {v v' : Value} {l : List FxV} {p : FxV} (h : FnsOwn w base v l) (hc : CodeOwn w base p.val p.1.c) (hg : w.grownBy w' v.ownBlock) (ho : w'.ownsRow base 44 4 v' (l.length + 1) (fCells l ++ p.1.cells p.val)) : FnsOwn w' base v' (l ++ [p]) := by
  have q : Fr (fun k => v.ownBlock = some k) w w' := (Fr.refl _ w).grown hg (fun k hk => .inl hk)
  refine ⟨by rw [fCells_snoc, List.length_append]; exact ho, fun q' hq => ?_⟩
  rcases List.mem_append.1 hq with hq | hq
  · exact (h.code q' hq).apart h.row (by decide) (by decide) q
  · rw [List.mem_singleton] at hq; subst hq
    exact hc.apart h.row (by decide) (by decide) q

/-! ### what function takes -/
def fnA (bs : List Nat) (s : Pl) : List Nat × Pl := takeP bs 1 s
def fnBb (bs : List Nat) (s : Pl) : List Nat × Pl := takeP bs 1 (fnA bs s).2
def fnC (bs : List Nat) (s : Pl) : List Nat × Pl := takeP bs 2 (fnBb bs s).2
def fnD (bs : List Nat) (s : Pl) : List Nat × Pl := blockP bs 4096 (fnC bs s).2
def fnSp (bs : List Nat) (s : Pl) : Sp := splitR (fnD bs s).1 ((fnD bs s).1.length + 1) [] [] 0
def functionP (bs : List Nat) (s : Pl) : List Fx × Pl :=
  if (fnD bs s).2.er ≠ 0 then ([], (fnD bs s).2) else
    ([⟨(unle (fnA bs s).1 : Nat), (unle (fnBb bs s).1 : Nat), (unle (fnC bs s).1 : Nat), (fnSp bs s).is⟩], if (fnSp bs s).er ≠ 0 then failP (fnD bs s).2 10 ((fnD bs s).2.at_ - (fnD bs s).1.length : Int) else (fnD bs s).2)
theorem takeP_len (bs : List Nat) (n : Nat) (s : Pl) (h : s.at_ ≤ bs.length) : (takeP bs n s).1.length ≤ n := by
  rcases takeP_cases bs n s h with ⟨h, -⟩ | ⟨h, -⟩
  · rw [h]; simp
  · omega
theorem blockS_at (bs : List Nat) (most : Nat) (s : Pl) (h : s.at_ ≤ bs.length) : (blockS bs most s).at_ ≤ bs.length := by
  unfold blockS
  split
  · rw [failP_at]; exact takeP_le h
  · exact takeP_le h
theorem blockP_len (bs : List Nat) (most : Nat) (s : Pl) (h : s.at_ ≤ bs.length) : (blockP bs most s).1.length ≤ most := by
  unfold blockP
  rcases takeP_cases bs (unle (takeP bs 2 s).1) (blockS bs most s) (blockS_at bs most s h) with ⟨h1, -⟩ | ⟨h1, -, h2, -⟩
  · rw [h1]; simp
  · rw [h1]
    unfold blockS at h2
    split at h2
    · rename_i h3
      unfold failP at h2
      rw [if_pos h3.1] at h2
      exact absurd h2 (by show ¬ (3 : Int) = 0; decide)
    · rename_i h3
      omega
theorem blockP_lt {bs : List Nat} (hb : ∀ b ∈ bs, b < 256) (most : Nat) (s : Pl) : ∀ b ∈ (blockP bs most s).1, b < 256 := takeP_lt hb _ _
theorem blockP_at (bs : List Nat) (most : Nat) (s : Pl) (h : s.at_ ≤ bs.length) : (blockP bs most s).2.at_ ≤ bs.length := takeP_le (blockS_at bs most s h)

end Go.Proofs.YtdngflhfhmnipaaGreat

import Derived.Test.YtihnkijeefkefaaGreatMA
import Derived.Lib.AppendZeros
import Derived.Test.YtihnkijeefkefaaGreatLK
import Derived.Deep.DeepCutAuto
set_option linter.unusedSimpArgs false
set_option linter.unusedVariables false
set_option linter.unusedSectionVars false
set_option linter.unnecessarySimpa false
set_option maxRecDepth 100000
/- slices.Grow, slices.Concat, slices.Clone of bytes (their spare room holds numbers); module.number. -/
namespace Go.Proofs.YtihnkijeefkefaaGreat
open Go.RowKit

attribute [local go_sem] Program.isFuncB Program.isSliceB

variable {w w' w'' w0 : World}

end Go.Proofs.YtihnkijeefkefaaGreat

/- module.Put. -/
namespace Go.Proofs.YtihnkijeefkefaaGreat
open Go.RowKit

attribute [local go_sem] Program.isFuncB Program.isSliceB

variable {w w' w'' w0 : World}

/-! ### a module's bytes -/
theorem firstBad_zero {α : Type} {p : α → Int} {l : List α} (h : firstBad p l = 0) : ∀ x ∈ l, p x = 0 := by
  intro x hx
  unfold firstBad at h
  split at h
  · rename_i i hi
    have := List.find?_some hi
    simp [h] at this
  · rename_i hi
    have := List.find?_eq_none.1 hi x hx
    simpa using this
theorem fnCk_zero {f : Fx} (h : fnCk f = 0) : numBad f.p f.r f.a = false ∧ joinCk f.c = 0 ∧ opsCk f.c f.r f.a = 0 := by
  unfold fnCk at h
  split at h
  · cases h
  · rename_i h1
    split at h
    · rename_i h2; exact (h2 h).elim
    · rename_i h2
      exact ⟨by simpa using h1, by simpa using h2, h⟩
theorem numBad_false {p r a : Int} (h : numBad p r a = false) : 0 ≤ p ∧ p ≤ 8 ∧ p ≤ r ∧ r ≤ 64 ∧ 0 ≤ a ∧ a ≤ 4096 := by
  unfold numBad at h
  rw [decide_eq_false_iff_not] at h
  omega
theorem Tryz.infoMod : (Tryz.prog.info? 25).map (·.size) = some 2 := by kernel_rfl

end Go.Proofs.YtihnkijeefkefaaGreat

/- module.Get's reader: place.fail, place.take. -/
namespace Go.Proofs.YtihnkijeefkefaaGreat
open Go.RowKit

attribute [local go_sem] Program.isFuncB Program.isSliceB

variable {w w' w'' w0 : World}

/-- where one stands, and the first fault -/
structure Pl where
  at_ : Nat
  er : Int
  fa : Int
  deriving DecidableEq
def failP (s : Pl) (e a : Int) : Pl := if s.er = 0 then ⟨s.at_, e, a⟩ else s
def takeP (bs : List Nat) (n : Nat) (s : Pl) : List Nat × Pl :=
  if s.er ≠ 0 then ([], s) else if bs.length - s.at_ < n then ([], failP s 4 bs.length) else ((bs.drop s.at_).take n, ⟨s.at_ + n, s.er, s.fa⟩)
end Go.Proofs.YtihnkijeefkefaaGreat

/- module.Get's reader: number, block. -/
namespace Go.Proofs.YtihnkijeefkefaaGreat
open Go.RowKit

attribute [local go_sem] Program.isFuncB Program.isSliceB

variable {w w' w'' w0 : World}

end Go.Proofs.YtihnkijeefkefaaGreat

/- module.Get's reader: block. -/
namespace Go.Proofs.YtihnkijeefkefaaGreat
open Go.RowKit

attribute [local go_sem] Program.isFuncB Program.isSliceB

variable {w w' w'' w0 : World}

def blockS (bs : List Nat) (most : Nat) (s : Pl) : Pl := if (takeP bs 2 s).2.er = 0 ∧ most < unle (takeP bs 2 s).1 then failP (takeP bs 2 s).2 3 s.at_ else (takeP bs 2 s).2
def blockP (bs : List Nat) (most : Nat) (s : Pl) : List Nat × Pl := takeP bs (unle (takeP bs 2 s).1) (blockS bs most s)

end Go.Proofs.YtihnkijeefkefaaGreat

/- module.Get's reader: head. -/
namespace Go.Proofs.YtihnkijeefkefaaGreat
open Go.RowKit

attribute [local go_sem] Program.isFuncB Program.isSliceB

variable {w w' w'' w0 : World}

def markL : List Nat := [84, 87, 1]
def badH (bs : List Nat) (k : Nat) : Bool := (List.range k).any fun i => decide (i < bs.length) && (bs.getD i 0 != markL.getD i 0)
def headS (bs : List Nat) (k : Nat) : Pl := if badH bs k then ⟨0, 10, 0⟩ else ⟨0, 0, 0⟩
def headP (bs : List Nat) : Pl := (takeP bs 3 (headS bs 3)).2
end Go.Proofs.YtihnkijeefkefaaGreat

/- module.Get's reader: function. -/
namespace Go.Proofs.YtihnkijeefkefaaGreat
open Go.RowKit

attribute [local go_sem] Program.isFuncB Program.isSliceB

variable {w w' w'' w0 : World}

/-! ### code and functions of the call's own -/
def CodeOwn (w : World) (base : Nat) (v : Value) (is : List Ix) : Prop := ∃ l : List (Ix × Value), l.map Prod.fst = is ∧ w.ownsRow base 112 6 v l.length (cellsOf l) ∧ ∀ p ∈ l, w.ownsRow base 3 1 p.2 p.1.l.length (ints p.1.l)
/-- blocks of no such type have turned -/
def Odd (w : World) (S : Nat → Prop) (ts : List TypeId) : Prop := ∀ k, S k → w.heap.size ≤ k ∨ ∃ (cs : Array Value) (t : TypeId), w.heap[k]? = some (.cells cs t (0, 0)) ∧ t ∉ ts
theorem owns_odd {S : Nat → Prop} {ts : List TypeId} {base n z : Nat} {e : TypeId} {v : Value} {xs : List Value} (h : w.ownsRow base e z v n xs) (r : Fr S w w') (ho : Odd w S ts) (he : e ∈ ts) : w'.ownsRow base e z v n xs :=
  owns_fr h r (fun k hk hS => by
    rcases ho k hS with h1 | ⟨cs, t, h1, h2⟩
    · have := (h.lt k hk).2; omega
    · exact row_block_ne h h1 (fun e => h2 (e ▸ he)) hk)
theorem CodeOwn.odd {S : Nat → Prop} {ts : List TypeId} {base : Nat} {v : Value} {is : List Ix} (h : CodeOwn w base v is) (r : Fr S w w') (ho : Odd w S ts) (h1 : 112 ∈ ts) (h2 : 3 ∈ ts) : CodeOwn w' base v is := by
  obtain ⟨l, e, h3, h4⟩ := h
  exact ⟨l, e, owns_odd h3 r ho h1, fun p hp => owns_odd (h4 p hp) r ho h2⟩
theorem CodeOwn.fn {base : Nat} {v : Value} {is : List Ix} (h : CodeOwn w base v is) (r : Fr no w w') : CodeOwn w' base v is := h.odd (ts := [112, 3]) r (fun k hk => hk.elim) (by simp) (by simp)
theorem CodeOwn.read {base : Nat} {v : Value} {is : List Ix} (h : CodeOwn w base v is) : ∃ a c, v = .slice a is.length c ∧ CodeIn w a is := by
  obtain ⟨l, rfl, h1, h2⟩ := h
  obtain ⟨a, c, h3, h4⟩ := codeIn_owns h1 (fun p hp => owns_reads (h2 p hp))
  exact ⟨a, c, by rw [h3, List.length_map], h4⟩
structure FnsOwn (w : World) (base : Nat) (v : Value) (l : List FxV) : Prop where
  row : w.ownsRow base 41 4 v l.length (fCells l)
  code : ∀ p ∈ l, CodeOwn w base p.val p.1.c
theorem FnsOwn.odd {S : Nat → Prop} {base : Nat} {v : Value} {l : List FxV} (h : FnsOwn w base v l) (r : Fr S w w') (ho : Odd w S [41, 112, 3]) : FnsOwn w' base v l :=
  ⟨owns_odd h.row r ho (by simp), fun p hp => (h.code p hp).odd r ho (by simp) (by simp)⟩
theorem FnsOwn.fn {base : Nat} {v : Value} {l : List FxV} (h : FnsOwn w base v l) (r : Fr no w w') : FnsOwn w' base v l := h.odd r (fun k hk => hk.elim)
theorem CodeOwn.apart {base base' n z : Nat} {v u : Value} {is : List Ix} {e : TypeId} {xs : List Value} (h : CodeOwn w base v is) (hu : w.ownsRow base' e z u n xs) (h1 : e ≠ 112) (h2 : e ≠ 3) (r : Fr (fun k => u.ownBlock = some k) w w') : CodeOwn w' base v is := by
  obtain ⟨l, e, h3, h4⟩ := h
  exact ⟨l, e, owns_fr h3 r (fun k hk e => rows_ne h3 hu (fun q => h1 q.symm) k hk e), fun p hp => owns_fr (h4 p hp) r (fun k hk e => rows_ne (h4 p hp) hu (fun q => h2 q.symm) k hk e)⟩
theorem FnsOwn.app {base : Nat} {v v' : Value} {l : List FxV} {p : FxV} (h : FnsOwn w base v l) (hc : CodeOwn w base p.val p.1.c) (hg : w.grownBy w' v.ownBlock) (ho : w'.ownsRow base 41 4 v' (l.length + 1) (fCells l ++ p.1.cells p.val)) : FnsOwn w' base v' (l ++ [p]) := by
  have q : Fr (fun k => v.ownBlock = some k) w w' := (Fr.refl _ w).grown hg (fun k hk => .inl hk)
  refine ⟨by rw [fCells_snoc, List.length_append]; exact ho, fun q' hq => ?_⟩
  rcases List.mem_append.1 hq with hq | hq
  · exact (h.code q' hq).apart h.row (by decide) (by decide) q
  · rw [List.mem_singleton] at hq; subst hq
    exact hc.apart h.row (by decide) (by decide) q

/-! ### what function takes -/
end Go.Proofs.YtihnkijeefkefaaGreat

/- module.Get's reader: function's walk. -/
namespace Go.Proofs.YtihnkijeefkefaaGreat
open Go.RowKit

attribute [local go_sem] Program.isFuncB Program.isSliceB

variable {w w' w'' w0 : World}

theorem Tryz.infoFunc3 : (Tryz.prog.info? 41).map (fun i => (i.zero, i.size, i.bytes)) = some (some (.agg zeroFn), 4, 48) := by kernel_rfl
end Go.Proofs.YtihnkijeefkefaaGreat

/- module.Get: what it tells; where it stands. -/
namespace Go.Proofs.YtihnkijeefkefaaGreat
open Go.RowKit

attribute [local go_sem] Program.isFuncB Program.isSliceB

variable {w w' w'' w0 : World}

def getB (bs : List Nat) : List Nat × Pl := blockP bs 8192 (headP bs)
def getC (bs : List Nat) : List Nat × Pl := takeP bs 1 (getB bs).2
def getN (bs : List Nat) : Nat := unle (getC bs).1
def getD (bs : List Nat) : Pl := if (getC bs).2.er = 0 ∧ (getN bs < 1 ∨ 64 < getN bs) then failP (getC bs).2 2 (getB bs).2.at_ else (getC bs).2
section
variable {wr wr' : World} {bv dv fv : Value} {bs ds : List Nat} {l : List FxV} {s s' : Pl}
end

end Go.Proofs.YtihnkijeefkefaaGreat

/- module.Get's walk. -/
namespace Go.Proofs.YtihnkijeefkefaaGreat
open Go.RowKit

attribute [local go_sem] Program.isFuncB Program.isSliceB

variable {w w' w'' w0 : World}

section
variable {wr wr' : World} {bv dv dv' fv fv' : Value} {bs ds ds' : List Nat} {l l' : List FxV} {s s' : Pl}
end

theorem FnsOwn.read {base : Nat} {v : Value} {l : List FxV} (h : FnsOwn w base v l) : ∃ a c, v = .slice a l.length c ∧ FnsIn w a (l.map Prod.fst) :=
  fns_owns h.row (fun p hp => by
    obtain ⟨a, c, h1, h2⟩ := (h.code p hp).read
    cases h1
    exact h2)
theorem Tryz.infoMod2 : (Tryz.prog.info? 25).map (·.size) = some 2 := by kernel_rfl
theorem load_mod (w : World) (b : Nat) (u v : Value) (h : w.heap[b]? = some (.cells #[u, v] 25 (0, 0))) : (loadVar 25 ⟨b, 0, none⟩).run Tryz.prog w = .ok (.agg #[u, v]) w :=
  run_loadVar_row w b _ _ #[u, v] _ _ h Tryz.underlying25 rfl (by rw [Tryz.infoMod2]; rfl)
end Go.Proofs.YtihnkijeefkefaaGreat

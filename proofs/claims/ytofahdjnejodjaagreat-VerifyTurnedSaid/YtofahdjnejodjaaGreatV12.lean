/- VerifyTurned (law12). -/
import Derived.Test.YtofahdjnejodjaaGreatV10
import Derived.Test.YtofahdjnejodjaaGreatV11
set_option linter.unusedSimpArgs false
set_option linter.unusedVariables false
set_option linter.unusedSectionVars false
set_option linter.unnecessarySimpa false
namespace Go.Proofs.YtofahdjnejodjaaGreat
open Go.RowKit Go.Flow Go.Sure

attribute [local go_sem] Program.isFuncB Program.isSliceB

variable {w w' w'' w0 : World}

theorem own_setCell {B z g n cap k : Nat} {e : TypeId} {xs : List Value} (h : w.ownsRow B e z (.slice (some ⟨g, 0, none⟩) n cap) n xs) (v : Value) : (w.setCell ⟨g, k, none⟩ v).ownsRow B e z (.slice (some ⟨g, 0, none⟩) n cap) n (xs.set k v) := by
  rcases h.2 with ⟨hv, h0⟩ | ⟨g', cap', cur, hv, hb, hg, h1, h2, h3, h4⟩
  · cases hv
  · cases hv
    refine ⟨by rw [List.length_set]; exact h.1, .inr ⟨g, cap, _, rfl, hb, heap_setCell hg, h1, h2, by simp [h3], ?_⟩⟩
    rw [Array.toList_setIfInBounds, List.take_set, h4]
theorem cellsOf_turn : ∀ (l : List (Ix × Value)) (i : Nat) (hi : i < l.length) (N' : Int), cellsOf (l.set i (turnN l[i].1 N', l[i].2)) = (cellsOf l).set (i * 6 + 4) (.int .i64 N')
  | p :: l, 0, _, N' => by
    simp [cellsOf, Ix.cells, turnN]
  | p :: l, i + 1, hi, N' => by
    have hi2 : i < l.length := by simpa using hi
    have ih := cellsOf_turn l i (by simpa using hi) N'
    have h6 : (p.1.cells p.2).length = 6 := rfl
    have e1 : cellsOf (p :: l) = p.1.cells p.2 ++ cellsOf l := by simp [cellsOf]
    have e2 : cellsOf ((p :: l).set (i + 1) (turnN (p :: l)[i + 1].1 N', (p :: l)[i + 1].2)) = p.1.cells p.2 ++ cellsOf (l.set i (turnN l[i].1 N', l[i].2)) := by simp [cellsOf]
    rw [e2, ih, e1, List.set_append_right _ _ (by rw [h6]; omega), h6, show (i + 1) * 6 + 4 - 6 = i * 6 + 4 from by omega]
theorem CodeOwn.other {base cb : Nat} {v : Value} {is : List Ix} {cs : Array Value} (h : CodeOwn w base v is) (hv : v.ownBlock ≠ some cb) (hcb : w.heap[cb]? = some (.cells cs 47 (0, 0))) (r : Fr (only [cb]) w w') : CodeOwn w' base v is := by
  obtain ⟨l, e, h3, h4⟩ := h
  exact ⟨l, e, owns_fr h3 r (fun k hk hk2 => hv (by rw [hk]; exact congrArg some (by simpa using hk2))), fun p hp => owns_fr (h4 p hp) r (fun k hk hk2 => row_block_ne (h4 p hp) hcb (by decide) (by rw [hk]; exact congrArg some (by simpa using hk2)))⟩

/-- an instruction of a code of one's own -/
structure InsAt (w : World) (base n c i : Nat) (a : Option Addr) (is : List Ix) (ix : Ix) (cb co : Nat) : Prop where
  addr : a = some ⟨cb, co, none⟩
  op : w.cell? ⟨cb, co + i * 6, none⟩ = some (.int .i64 ix.o)
  num : w.cell? ⟨cb, co + i * 6 + 4, none⟩ = some (.int .i64 ix.N)
  fz : w.frozen? ⟨cb, co + i * 6 + 4, none⟩ = false
  own : base ≤ cb
  blk : ∃ cs, w.heap[cb]? = some (.cells cs 47 (0, 0))
  turn : ∀ N', CodeOwn (w.setCell ⟨cb, co + i * 6 + 4, none⟩ (.int .i64 N')) base (.slice a n c) (is.set i (turnN ix N'))
theorem CodeOwn.insAt {base n c i : Nat} {a : Option Addr} {is : List Ix} (h : CodeOwn w base (.slice a n c) is) (hi : i < is.length) : ∃ cb co, InsAt w base n c i a is is[i] cb co := by
  obtain ⟨l, hl, h3, h4⟩ := h
  have hil : i < l.length := by rw [← hl] at hi; simpa using hi
  have hix : is[i] = l[i].1 := by simp [← hl]
  have hn : n = l.length := by
    obtain ⟨_, _, e⟩ := owns_shape h3
    cases e
    rfl
  have h3' := h3
  rcases h3.2 with ⟨hv, h0⟩ | ⟨g, cap, cur, hv, hb, hg, h1, h2, h5, h6⟩
  · cases hv; omega
  · cases hv
    have hc : ∀ j v, (l[i].1.cells l[i].2)[j]? = some v → w.cell? ⟨g, 0 + i * 6 + j, none⟩ = some v := fun j v hj => by
      have hj6 : j < 6 := (List.getElem?_eq_some_iff.1 hj).1
      have := h3.cells rfl (i * 6 + j) v (by rw [cellsOf_get l i j hil hj6]; exact hj)
      rw [Addr.add_lit] at this
      rw [Nat.zero_add]
      rwa [Nat.zero_add] at this
    refine ⟨g, 0, rfl, by rw [hix]; exact hc 0 _ rfl, by rw [hix]; exact hc 4 _ rfl, frozen_of_heap hg, hb, ⟨_, hg⟩, fun N' => ?_⟩
    have r : Fr (only [g]) w (w.setCell ⟨g, 0 + i * 6 + 4, none⟩ (.int .i64 N')) := (Fr.refl _ w).setCell _ _ (.inl (by simp))
    refine ⟨l.set i (turnN l[i].1 N', l[i].2), by rw [List.map_set, hl, hix], ?_, fun p hp => ?_⟩
    · rw [List.length_set, cellsOf_turn l i hil N', Nat.zero_add]
      exact own_setCell h3 _
    · have hp2 : ∃ q ∈ l, q.2 = p.2 ∧ q.1.l = p.1.l := by
        rcases List.mem_or_eq_of_mem_set hp with hp | rfl
        · exact ⟨p, hp, rfl, rfl⟩
        · exact ⟨l[i], List.getElem_mem hil, rfl, rfl⟩
      obtain ⟨q, hq, e1, e2⟩ := hp2
      have := h4 q hq
      rw [e1, e2] at this
      exact owns_fr this r (fun k hk hk2 => row_block_ne this hg (by decide) (by rw [hk]; exact congrArg some (by simpa using hk2)))

def turnP (p : FxV) (i : Nat) (N' : Int) (ix : Ix) : FxV := ({ p.1 with c := p.1.c.set i (turnN ix N') }, p.2)
theorem fCells_turn (l : List FxV) (f i : Nat) (hf : f < l.length) (N' : Int) (ix : Ix) : fCells (l.set f (turnP l[f] i N' ix)) = fCells l := by
  unfold fCells
  rw [List.flatMap_def, List.flatMap_def, List.map_set]
  have e : (fun p : FxV => p.1.cells p.val) (turnP l[f] i N' ix) = (l.map fun p : FxV => p.1.cells p.val)[f]'(by simpa using hf) := by
    rw [List.getElem_map]
    simp [turnP, Fx.cells, FxV.val]
  rw [show (turnP l[f] i N' ix).1.cells (turnP l[f] i N' ix).val = (fun p : FxV => p.1.cells p.val) (turnP l[f] i N' ix) from rfl, e, List.set_getElem_self]

theorem sep_at {l : List FxV} (h : l.Pairwise SepV) {i j : Nat} (hi : i < l.length) (hj : j < l.length) (hne : i ≠ j) {k : Nat} (hk : l[j].val.ownBlock = some k) : l[i].val.ownBlock ≠ some k := by
  rcases Nat.lt_or_ge i j with hlt | hge
  · intro hik
    exact List.pairwise_iff_getElem.1 h i j hi hj hlt k hik hk
  · exact List.pairwise_iff_getElem.1 h j i hj hi (by omega) k hk

theorem MX.turn {wr : World} {base b0 : Nat} {xa oa : Option Addr} {xc oc : Nat} {d : List Nat} {l : List FxV} (h : MX w wr base b0 xa oa xc oc d l) (hs : l.Pairwise SepV) (f i : Nat) (hf : f < l.length) (hi : i < l[f].1.c.length) :
    ∃ cb co, l[f].2.1 = some ⟨cb, co, none⟩ ∧ wr.cell? ⟨cb, co + i * 6, none⟩ = some (.int .i64 l[f].1.c[i].o) ∧ wr.cell? ⟨cb, co + i * 6 + 4, none⟩ = some (.int .i64 l[f].1.c[i].N) ∧ wr.frozen? ⟨cb, co + i * 6 + 4, none⟩ = false ∧
      ∀ N', MX w (wr.setCell ⟨cb, co + i * 6 + 4, none⟩ (.int .i64 N')) base b0 xa oa xc oc d (l.set f (turnP l[f] i N' l[f].1.c[i])) := by
  have hco := h.fns.code _ (List.getElem_mem hf)
  obtain ⟨cb, co, I⟩ := CodeOwn.insAt hco hi
  obtain ⟨cs, hcs⟩ := I.blk
  refine ⟨cb, co, I.addr, I.op, I.num, I.fz, fun N' => ?_⟩
  have r : Fr (only [cb]) wr (wr.setCell ⟨cb, co + i * 6 + 4, none⟩ (.int .i64 N')) := (Fr.refl _ wr).setCell _ _ (.inl (by simp))
  have hne : ∀ {o : Array Value} {t : TypeId} {b : Nat}, wr.heap[b]? = some (.cells o t (0, 0)) → t ≠ 47 → b ≠ cb := fun h1 ht e => by
    rw [e, hcs] at h1
    simp at h1
    exact ht h1.2.symm
  refine ⟨by rw [List.length_set]; exact r.heap h.obj (by have := hne h.obj (by decide); simpa using this), owns_fr h.data r (fun k hk hk2 => row_block_ne h.data hcs (by decide) (by rw [hk]; exact congrArg some (by simpa using hk2))), ?_, h.fr.trans' r (fun k hk _ => by have := I.own; have := h.lo; simp at hk; omega), h.lo⟩
  refine ⟨?_, fun q hq => ?_⟩
  · rw [fCells_turn l f i hf, List.length_set]
    exact owns_fr h.fns.row r (fun k hk hk2 => row_block_ne h.fns.row hcs (by decide) (by rw [hk]; exact congrArg some (by simpa using hk2)))
  · obtain ⟨j, hj, rfl⟩ := List.getElem_of_mem hq
    have hjl : j < l.length := by simpa using hj
    by_cases hjf : j = f
    · subst hjf
      rw [List.getElem_set_self]
      have := I.turn N'
      simpa [turnP, FxV.val] using this
    · rw [List.getElem_set_ne (by omega)]
      have hov : l[f].val.ownBlock = some cb := by
        unfold FxV.val
        rw [I.addr]
        rfl
      exact (h.fns.code _ (List.getElem_mem hjl)).other (sep_at hs hjl hf hjf hov) hcs r

end Go.Proofs.YtofahdjnejodjaaGreat

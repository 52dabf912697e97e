/- Flow's words on instructions; the map of places; numbers sorted, each once. -/
import Derived.Test.YtofahdjnejodjaaGreatLK
import Derived.Test.YtofahdjnejodjaaGreatFa
import Derived.Test.YtofahdjnejodjaaGreatShelf
import Derived.Maps.OwnSet
import Derived.Lib.RowBridge
import Derived.Sort.Grow
set_option linter.unusedSimpArgs false
set_option linter.unusedVariables false
set_option linter.unusedSectionVars false
set_option linter.unnecessarySimpa false
namespace Go.Proofs.YtofahdjnejodjaaGreat
open Go.RowKit Go.Flow

attribute [local go_sem] Program.isFuncB Program.isSliceB

variable {w w' w'' w0 : World}

def tgtI (i : Ix) : Int := if hasB (sh i.o) 116 then i.N else -1
def fiOf (i : Ix) : Fi := ⟨fallsI i.o, tgtI i, (encE i).length⟩
def fis (is : List Ix) : List Fi := is.map fiOf
theorem fis_len (is : List Ix) : (fis is).length = is.length := by simp [fis]
theorem fis_at (is : List Ix) (k : Nat) (h : k < is.length) : (fis is)[k]'(by rw [fis_len]; exact h) = fiOf is[k] := by simp [fis]
theorem fis_get (is : List Ix) (k : Nat) (h : k < is.length) : (fis is)[k]? = some (fiOf is[k]) := by simp [fis, h]
theorem plc_fis (is : List Ix) (k : Nat) : plc (fis is) k = (bytesOf (is.take k)).length := by
  unfold plc fis bytesOf
  rw [← List.map_take, List.map_map, List.length_flatMap]
  rfl
def flowCk (is : List Ix) : Int := ck (joinCk is) (fis is)
theorem fis_pos {is : List Ix} (h : ∀ i ∈ is, ckOf i = 0) : ∀ i ∈ fis is, 0 < i.ln := by
  intro i hi
  obtain ⟨x, hx, rfl⟩ := List.mem_map.1 hi
  exact encE_pos x (h x hx)
theorem flowCk_join {is : List Ix} (h : flowCk is = 0) : joinCk is = 0 := by
  apply Classical.byContradiction
  intro h1
  unfold flowCk ck at h
  rw [if_pos h1] at h
  exact h1 h
theorem flowCk_flows {is : List Ix} (h : flowCk is = 0) : Flows (fis is) := by
  have h1 := flowCk_join h
  unfold flowCk at h
  rw [h1] at h
  exact ck_flows _ (fis_pos (joinCk_zero is h1).1) 0 (by rw [h1] at *; exact h)

/-! ### the map of places -/
def numD (l : List Fi) : Nat → DataW Unit
  | 0 => .map []
  | k + 1 => (numD l k).put (.int .i64 (plc l k)) (.lit (.int .i64 k))
theorem numD_map (l : List Fi) : ∀ k, Maps.IsMap (numD l k)
  | 0 => Maps.isMap_empty
  | k + 1 => (numD_map l k).put _ _
theorem isKey_int (a : Int) : WideAt.IsKeyLit (.int .i64 a) := trivial
theorem int_ne {a b : Int} (h : a ≠ b) : (Lit.int .i64 a) ≠ (Lit.int .i64 b) := fun e => h (by cases e; rfl)
theorem numD_not (l : List Fi) (t : Int) : ∀ k, (∀ j, j < k → (plc l j : Int) ≠ t) → Maps.has (numD l k) (.int .i64 t) = false ∧ ∀ z, (numD l k).atKey (.int .i64 t) z = z
  | 0, _ => ⟨rfl, fun _ => rfl⟩
  | k + 1, h => by
    obtain ⟨h1, h2⟩ := numD_not l t k (fun j hj => h j (by omega))
    have hne : (Lit.int .i64 t) ≠ (Lit.int .i64 (plc l k)) := int_ne (fun e => h k (by omega) e.symm)
    unfold numD
    rw [Maps.has_put_other hne, h1]
    exact ⟨rfl, fun z => by rw [Maps.atKey_put_other hne, h2]⟩
theorem numD_at (l : List Fi) (hp : ∀ i ∈ l, 0 < i.ln) (j : Nat) (z : DataW Unit) : ∀ k, k ≤ l.length → j < k → Maps.has (numD l k) (.int .i64 (plc l j)) = true ∧ (numD l k).atKey (.int .i64 (plc l j)) z = .lit (.int .i64 j)
  | 0, _, h => by omega
  | k + 1, hk, h => by
    unfold numD
    by_cases hj : j = k
    · subst hj
      exact ⟨Maps.has_put_same (numD_map l j) (isKey_int _) _, Maps.atKey_put_same (numD_map l j) (isKey_int _) _ _⟩
    · have hne : (Lit.int .i64 (plc l j)) ≠ (Lit.int .i64 (plc l k)) := int_ne (fun e => hj (plc_inj l hp j k (by omega) (by omega) (by omega)))
      rw [Maps.has_put_other hne, Maps.atKey_put_other hne]
      exact numD_at l hp j z k (by omega) (by omega)
theorem num_look (l : List Fi) (hp : ∀ i ∈ l, 0 < i.ln) (t : Int) :
    Maps.has (numD l l.length) (.int .i64 t) = (atO l t).isSome ∧ (numD l l.length).atKey (.int .i64 t) (.lit (.int .i64 0)) = .lit (.int .i64 ((atO l t).getD 0 : Nat)) := by
  cases h : atO l t with
  | none =>
    obtain ⟨h1, h2⟩ := numD_not l t l.length (fun j hj => atO_none h j hj)
    exact ⟨h1, h2 _⟩
  | some k =>
    obtain ⟨h1, h2⟩ := atO_some h
    subst h2
    exact numD_at l hp k _ l.length (Nat.le_refl _) h1

/-- block b is the map of places of l -/
structure NumMap (w : World) (b : Nat) (l : List Fi) : Prop where
  own : w.ownsMap Tryz.prog 3 (plainElem Tryz.prog 3) b l.length (numD l l.length)
  pos : ∀ i ∈ l, 0 < i.ln
theorem keyed : Maps.Keyed Tryz.prog 3 := Maps.int_keyed Tryz.underlying3
theorem zeroI (w : World) : (zeroValue 3).run Tryz.prog w = .ok (.int .i64 0) w := by kernel_rfl
theorem ownsMap_fr {S : Nat → Prop} {b n : Nat} {D : DataW Unit} (h : w.ownsMap Tryz.prog 3 (plainElem Tryz.prog 3) b n D) (r : Fr S w w') (hb : ¬ S b) : w'.ownsMap Tryz.prog 3 (plainElem Tryz.prog 3) b n D := by
  obtain ⟨es, clock, h1, h2⟩ := h
  exact ⟨es, clock, r.heap h1 hb, h2⟩
theorem NumMap.fr {S : Nat → Prop} {b : Nat} {l : List Fi} (h : NumMap w b l) (r : Fr S w w') (hb : ¬ S b) : NumMap w' b l := ⟨ownsMap_fr h.own r hb, h.pos⟩
theorem num_run (w : World) (b : Nat) (l : List Fi) (h : NumMap w b l) (t : Int) (ht : rng t) :
    (Instr.lookup 84 (.map (some b)) (.int .i64 t) true).run Tryz.prog w = .ok (.tuple #[.int .i64 ((atO l t).getD 0 : Nat), .bool (atO l t).isSome]) w ∧
    (Instr.lookup 84 (.map (some b)) (.int .i64 t) false).run Tryz.prog w = .ok (.int .i64 ((atO l t).getD 0 : Nat)) w := by
  have hw : (Lit.int .i64 t).wf = true := WalkArith.wf_i64 (by unfold rng at ht; omega)
  have hkey := Maps.keyOf_int_mk Tryz.underlying3 hw
  obtain ⟨h1, h2⟩ := num_look l h.pos t
  refine ⟨?_, ?_⟩
  · obtain ⟨v, ps, hrun, hv⟩ := h.own.look_ok keyed Tryz.underlying84 (zeroI _) (plainElem_int Tryz.underlying3 (by decide)) hkey
    obtain ⟨c, rfl, hc, -⟩ := plainElem_int_inv Tryz.underlying3 hv
    have hc := congrArg Prod.fst hc
    dsimp only at hc
    rw [h2] at hc
    cases hc
    rw [h1] at hrun
    exact hrun
  · obtain ⟨c, hrun, hat, -⟩ := h.own.lookup_int keyed Tryz.underlying84 Tryz.underlying3 (zeroI _) hkey
    rw [h2] at hat
    cases hat
    exact hrun

/-! ### numbers in a row of the call's own, sorted, each once -/
theorem map_block {w : World} {g : Nat} {f : Array Value → Array Value} {c : Array Value} {e : TypeId} {fr : Nat × Nat} (h : w.heap[g]? = some (.cells c e fr)) : (Sort.mapBlock w g f).heap[g]? = some (.cells (f c) e fr) := by
  simp [Sort.mapBlock, Array.getElem?_modify, h, Sort.onCells]
theorem map_fr (w : World) (g : Nat) (f : Array Value → Array Value) : Fr (only [g]) w (Sort.mapBlock w g f) :=
  ⟨rfl, rfl, rfl, by simp [Sort.mapBlock], fun k _ hs => by
    have : ¬ g = k := fun e => hs (by simp [e])
    simp [Sort.mapBlock, Array.getElem?_modify, this]⟩
theorem cells_put {d : List Int} {n cap : Nat} {cur : Array Value} (hd : d.length ≤ cur.size) : (Sort.putCells (Value.int .i64) 0 d.toArray cur).toList = ints d ++ cur.toList.drop d.length := by
  apply List.ext_getElem?
  intro j
  rw [Array.getElem?_toList]
  simp only [Sort.putCells, Array.getElem?_mapIdx, List.size_toArray, Nat.zero_le, true_and, Nat.zero_add, Nat.sub_zero]
  by_cases hj : j < d.length
  · rw [List.getElem?_append_left (by simpa [ints] using hj), Array.getElem?_eq_getElem (by omega)]
    simp [hj, ints]
  · rw [List.getElem?_append_right (by simp [ints]; omega)]
    simp only [hj, if_false, ints, List.length_map, List.getElem?_drop]
    rw [show d.length + (j - d.length) = j from by omega]
    simp
theorem grow_fr (w : World) (os : Array Obj) : Fr (only []) w (Sort.grow w os) :=
  ⟨rfl, rfl, rfl, by simp, fun k hk _ => Array.getElem?_append_left hk⟩
/-- the row behind such a call: the cells d, what lay behind them as it was -/
theorem row_put {base g n cap q : Nat} {os : Array Obj} {zs d : List Int} (h : w.ownsRow base 3 1 (.slice (some ⟨g, 0, none⟩) n cap) n (ints zs)) (hd : d.length = n) :
    (Sort.grow (Sort.putRow (Value.int .i64) (Sort.ahead w q) g 0 d.toArray) os).ownsRow base 3 1 (.slice (some ⟨g, 0, none⟩) n cap) n (ints d) ∧ Fr (only [g]) w (Sort.grow (Sort.putRow (Value.int .i64) (Sort.ahead w q) g 0 d.toArray) os) := by
  rcases h.2 with ⟨hv, _⟩ | ⟨g', cap', cur, hv, hb, hg, h1, h2, h3, h4⟩
  · cases hv
  · cases hv
    have hlt := (Array.getElem?_eq_some_iff.1 hg).1
    refine ⟨⟨by simp [ints, hd], .inr ⟨g, cap, Sort.putCells (Value.int .i64) 0 d.toArray cur, rfl, hb, ?_, h1, h2, ?_, ?_⟩⟩, ?_⟩
    · have : (Sort.putRow (Value.int .i64) (Sort.ahead w q) g 0 d.toArray).heap[g]? = some (.cells (Sort.putCells (Value.int .i64) 0 d.toArray cur) 3 (0, 0)) := map_block (w := Sort.ahead w q) hg
      show ((Sort.putRow (Value.int .i64) (Sort.ahead w q) g 0 d.toArray).heap ++ os)[g]? = _
      rw [Array.getElem?_append_left ((Array.getElem?_eq_some_iff.1 this).1)]
      exact this
    · rw [← h3]; simp [Sort.putCells]
    · rw [cells_put (n := n) (cap := cap) (by omega), List.take_append_of_le_length (by simp [ints]; omega), List.take_of_length_le (by simp [ints]; omega)]
    · have r1 : Fr (only [g]) w (Sort.ahead w q) := ⟨rfl, rfl, rfl, Nat.le_refl _, fun _ _ _ => rfl⟩
      have r2 := r1.trans (map_fr (Sort.ahead w q) g (Sort.putCells (Value.int .i64) 0 d.toArray))
      exact r2.trans ((grow_fr _ os).mono (fun k hk _ => by simp at hk))
theorem holds_own {base g n cap : Nat} {zs : List Int} (h : w.ownsRow base 3 1 (.slice (some ⟨g, 0, none⟩) n cap) n (ints zs)) : Sort.Holds (Value.int .i64) w g 0 zs.toArray := by
  rcases h.2 with ⟨hv, _⟩ | ⟨g', cap', cur, hv, hb, hg, h1, h2, h3, h4⟩
  · cases hv
  · cases hv
    intro j hj
    have hj' : j < zs.length := by simpa using hj
    refine ⟨?_, frozen_of_heap hg⟩
    have := h.cells rfl j (.int .i64 zs[j]) (by simp [ints, hj'])
    rw [Addr.add_lit] at this
    rw [this]
    simp [hj']
theorem sort_own (w : World) (base g cap : Nat) (zs : List Int) (h : w.ownsRow base 3 1 (.slice (some ⟨g, 0, none⟩) zs.length cap) zs.length (ints zs)) (hl : zs.length ≤ 100000) :
    Calls Tryz.prog 86 #[.slice (some ⟨g, 0, none⟩) zs.length cap] w fun e w' => e = .returned (.tuple #[]) ∧ w'.ownsRow base 3 1 (.slice (some ⟨g, 0, none⟩) zs.length cap) zs.length (ints (zs.mergeSort fun x y => decide (x ≤ y))) ∧ Fr (only [g]) w w' := by
  have hg : g < w.heap.size := (h.lt g rfl).2
  refine (Tryz.slices_Sort_int g 0 cap zs w (holds_own h) hg (by omega)).mono ?_
  rintro e w' ⟨rfl, q, os, rfl⟩
  obtain ⟨h1, h2⟩ := row_put (q := q) (os := os) (d := zs.mergeSort fun x y => decide (x ≤ y)) h (by simp)
  exact ⟨rfl, h1, h2⟩
theorem own_shorter {base g n m cap : Nat} {a b : List Int} (h : w.ownsRow base 3 1 (.slice (some ⟨g, 0, none⟩) n cap) n (ints (a ++ b))) (hm : a.length = m) : w.ownsRow base 3 1 (.slice (some ⟨g, 0, none⟩) m cap) m (ints a) := by
  have hn := h.1
  rcases h.2 with ⟨hv, _⟩ | ⟨g', cap', cur, hv, hb, hg, h1, h2, h3, h4⟩
  · cases hv
  · cases hv
    simp [ints] at hn
    refine ⟨by simp [ints, hm], .inr ⟨g, cap, cur, rfl, hb, hg, by omega, h2, h3, ?_⟩⟩
    have : (cur.toList.take (n * 1)).take m = (ints (a ++ b)).take m := by rw [h4]
    rw [List.take_take] at this
    rw [show min m (n * 1) = m * 1 from by omega] at this
    rw [this]
    simp [ints, ← hm]
theorem compact_own (w : World) (base g cap : Nat) (zs : List Int) (h : w.ownsRow base 3 1 (.slice (some ⟨g, 0, none⟩) zs.length cap) zs.length (ints zs)) (hl : zs.length ≤ 100000) :
    Calls Tryz.prog 87 #[.slice (some ⟨g, 0, none⟩) zs.length cap] w fun e w' => e = .returned (.slice (some ⟨g, 0, none⟩) (Lib.compact zs).length cap) ∧ w'.ownsRow base 3 1 (.slice (some ⟨g, 0, none⟩) (Lib.compact zs).length cap) (Lib.compact zs).length (ints (Lib.compact zs)) ∧ Fr (only [g]) w w' := by
  have hcap : zs.length ≤ cap := by
    rcases h.2 with ⟨hv, _⟩ | ⟨g', cap', cur, hv, hb, hg, h1, h2, h3, h4⟩
    · cases hv
    · cases hv; exact h1
  refine (Tryz.slices_Compact_int g 0 cap zs w (holds_own h) (by omega) hcap).mono ?_
  rintro e w' ⟨rfl, q, rfl⟩
  have hc := Lib.compact_length_le zs
  obtain ⟨h1, h2⟩ := row_put (q := q) (os := #[]) (d := Lib.compact zs ++ List.replicate (zs.length - (Lib.compact zs).length) 0) h (by simp; omega)
  rw [Sort.grow_empty] at h1 h2
  exact ⟨rfl, own_shorter h1 rfl, h2⟩

theorem sortI_none : sortI [] = [] := List.length_eq_zero_iff.1 (Nat.le_zero.1 (sortI_len []))
/-- flow.sorted -/
theorem sorted_ok (w : World) (base : Nat) (v : Value) (zs : List Int) (h : w.ownsRow base 3 1 v zs.length (ints zs)) (hl : zs.length ≤ 100000) :
    Calls Tryz.prog 59 #[v] w fun e w' => ∃ u, e = .returned u ∧ w'.ownsRow base 3 1 u (sortI zs).length (ints (sortI zs)) ∧ (∀ k, u.ownBlock = some k → v.ownBlock = some k) ∧ Fr (fun k => v.ownBlock = some k) w w' := by
  rcases h.2 with ⟨rfl, h0⟩ | ⟨g, cap, cur, rfl, hb, hg, h1, h2, h3, h4⟩
  · obtain rfl : zs = [] := List.length_eq_zero_iff.1 h0
    clear h
    go_enter Tryz.func59, Tryz.ntmps59
    go_wp2_with fail
    refine (Tryz.slices_Sort_int_none none 0 w).mono ?_
    rintro e w' ⟨rfl, rfl⟩
    go_wp2_with fail
    refine (Tryz.slices_Compact_int_empty none 0 w').mono ?_
    rintro e w' ⟨rfl, rfl⟩
    go_wp2_with fail
    go_ret
    exact ⟨.slice none 0 0, rfl, by rw [sortI_none]; exact World.ownsRow_nil _ _ _ _, fun k hk => (by cases hk), Fr.refl _ _⟩
  · have HS := Lib.hid (sort_own w base g cap zs h hl)
    have HC := Lib.hid (fun (w1 : World) (h1 : w1.ownsRow base 3 1 (.slice (some ⟨g, 0, none⟩) zs.length cap) zs.length (ints (zs.mergeSort fun x y => decide (x ≤ y)))) =>
      compact_own w1 base g cap (zs.mergeSort fun x y => decide (x ≤ y)) (by rw [List.length_mergeSort]; exact h1) (by rw [List.length_mergeSort]; exact hl))
    rw [List.length_mergeSort] at HC
    clear h hg h1 h2 h3 h4
    go_enter Tryz.func59, Tryz.ntmps59
    go_wp2_with fail
    refine HS.out.mono ?_
    rintro e w1 ⟨rfl, ho, r1⟩
    have HC1 := Lib.hid (HC.out w1 ho)
    have R1 := Lib.hid r1
    clear r1 ho HC HS
    go_wp2_with fail
    refine HC1.out.mono ?_
    rintro e w2 ⟨rfl, ho, r2⟩
    have HO := Lib.hid ho
    have R2 := Lib.hid (R1.out.trans r2)
    clear r2 ho HC1
    go_wp2_with fail
    go_ret
    exact ⟨_, rfl, HO.out, fun k hk => hk, R2.out.mono (fun k hk _ => by simp at hk; subst hk; rfl)⟩

end Go.Proofs.YtofahdjnejodjaaGreat

/- A set of names (law24). -/
import Derived.Test.YtjpkmaacalelcaaDoorY11
import Derived.Test.YtjpkmaacalelcaaDoorYe
import Derived.Maps.OwnSet
import Derived.Maps.Views
set_option linter.unusedSimpArgs false
set_option linter.unusedVariables false
set_option linter.unusedSectionVars false
set_option linter.unnecessarySimpa false
set_option maxRecDepth 100000
namespace Go.Proofs.YtjpkmaacalelcaaDoor
open Go.RowKit Go.Ty Go.Maps

variable {w w' w'' w0 : World}

def nmL (s : ByteArray) : Lit := .string s.data.toList
def seenD (ns : List ByteArray) : DataW Unit := setOf (.agg []) (ns.map nmL)
theorem nmL_same (a b : ByteArray) : (nmL a).sameKey (nmL b) = decide (a = b) := by
  rw [Bool.eq_iff_iff]
  unfold nmL Lit.sameKey
  rw [beq_iff_eq, decide_eq_true_eq]
  constructor
  · intro h
    have h2 := Array.toList_inj.1 h
    cases a; cases b
    simp only at h2
    rw [h2]
  · intro h; rw [h]
theorem seen_has (ns : List ByteArray) (s : ByteArray) : Maps.has (seenD ns) (nmL s) = memB ns s := by
  unfold seenD
  rw [has_setOf _ _ _ (fun x hx => by obtain ⟨y, _, rfl⟩ := List.mem_map.1 hx; exact trivial)]
  rw [Bool.eq_iff_iff, List.any_eq_true, memB_iff]
  constructor
  · rintro ⟨x, hx, h⟩
    obtain ⟨y, hy, rfl⟩ := List.mem_map.1 hx
    rw [nmL_same, decide_eq_true_eq] at h
    exact h ▸ hy
  · intro h
    exact ⟨nmL s, List.mem_map.2 ⟨s, h, rfl⟩, by rw [nmL_same]; simp⟩
structure SeenMap (w : World) (b n : Nat) (ns : List ByteArray) : Prop where
  own : w.ownsMap Tryd.prog 9 (unitElem (H := Unit)) b n (seenD ns)
theorem ownsMap_frU {S : Nat → Prop} {b n : Nat} {D : DataW Unit} (h : w.ownsMap Tryd.prog 9 (unitElem (H := Unit)) b n D) (r : Fr S w w') (hb : ¬ S b) : w'.ownsMap Tryd.prog 9 (unitElem (H := Unit)) b n D := by
  obtain ⟨es, clock, h1, h2⟩ := h
  exact ⟨es, clock, r.heap h1 hb, h2⟩
theorem SeenMap.fr {S : Nat → Prop} {b n : Nat} {ns : List ByteArray} (h : SeenMap w b n ns) (r : Fr S w w') (hb : ¬ S b) : SeenMap w' b n ns := ⟨ownsMap_frU h.own r hb⟩
theorem SeenMap.lt {b n : Nat} {ns : List ByteArray} (h : SeenMap w b n ns) : b < w.heap.size := h.own.lt
theorem keyedS : Keyed Tryd.prog 9 := string_keyed Tryd.underlying9
theorem zeroU (w : World) : (zeroValue 67).run Tryd.prog w = .ok (.agg #[]) w := by kernel_rfl
theorem seen_made (w : World) : SeenMap (w.alloc (.map #[] 0)) w.heap.size 0 [] := ⟨World.ownsMap_made _ _ _ _⟩
theorem SeenMap.look {b n : Nat} {ns : List ByteArray} (h : SeenMap w b n ns) (s : ByteArray) (hs : s.size ≤ maxLen) :
    (Instr.lookup 68 (.map (some b)) (.string s) true).run Tryd.prog w = .ok (.tuple #[.agg #[], .bool (memB ns s)]) w := by
  obtain ⟨v, ps, hrun, hv⟩ := h.own.look_ok keyedS Tryd.underlying68 (zeroU _) unitElem_mk (kl := nmL s) (Go.WideMaps.keyOf_string_mk Tryd.underlying9 hs)
  obtain ⟨rfl, _⟩ := unitElem_inv hv
  rw [hrun]
  congr 2
  rw [seen_has]
theorem SeenMap.add {b n : Nat} {ns : List ByteArray} (h : SeenMap w b n ns) (hn : n < maxLen) (s : ByteArray) (hs : s.size ≤ maxLen) :
    ∃ w', (Instr.mapUpdate 68 (.map (some b)) (.string s) (.agg #[])).run Tryd.prog w = .ok () w' ∧ SeenMap w' b (n + 1) (ns ++ [s]) ∧ Fr (only [b]) w w' := by
  obtain ⟨w', hrun, hown, hg⟩ := h.own.update keyedS Tryd.underlying68 hn (kl := nmL s) (Go.WideMaps.keyOf_string_mk Tryd.underlying9 hs) (d := .agg []) (ps := []) (val := .agg #[]) unitElem_mk
  refine ⟨w', hrun, ⟨?_⟩, (Fr.refl (only [b]) w).grown hg (fun k hk => .inl (by cases hk; simp))⟩
  unfold seenD
  rw [List.map_append]
  show w'.ownsMap _ _ _ _ _ (setOf (.agg []) (ns.map nmL ++ [nmL s]))
  rw [setOf_snoc]
  exact hown

section
variable {P : Program} {ops : Array Oper} {rest : List Oper} {o : Oper} {a : Act} {Q : Exit → Act → World → Prop}
theorem wpList_insert (hg : o.guard = none) (t : TypeId) (m x v : Operand) (hop : o.op = Op.insert t m x v) (vm vx vv : Value) (hm : a.eval m = vm) (hx : a.eval x = vx) (hv : a.eval v = vv) (w' : World)
    (hrun : (Instr.mapUpdate t vm vx vv).run P w = .ok () w') (hK : wpList P ops Q rest (a.put o.dst undef) w') : wpList P ops Q (o :: rest) a w := by
  refine wpList_plain hg fun K' hK' => ?_
  unfold Oper.wp
  simp [execOp, hop, hm, hx, hv, hrun, Result.andThen]
  exact hK' _ _ hK
theorem wpList_update (hg : o.guard = none) (t : TypeId) (m x v : Operand) (hop : o.op = Op.mapUpdate t m x v) (vm vx vv : Value) (hm : a.eval m = vm) (hx : a.eval x = vx) (hv : a.eval v = vv) (w' : World)
    (hrun : (Instr.mapUpdate t vm vx vv).run P w = .ok () w') (hK : wpList P ops Q rest (a.put o.dst undef) w') : wpList P ops Q (o :: rest) a w := by
  refine wpList_plain hg fun K' hK' => ?_
  unfold Oper.wp
  simp [execOp, hop, hm, hx, hv, hrun, Result.andThen]
  exact hK' _ _ hK
theorem wpList_look (hg : o.guard = none) (t : TypeId) (m x : Operand) (hop : o.op = Op.lookup t m x true) (vm vx v : Value) (hm : a.eval m = vm) (hx : a.eval x = vx)
    (hrun : (Instr.lookup t vm vx true).run P w = .ok v w) (hK : wpList P ops Q rest (a.put o.dst v) w) : wpList P ops Q (o :: rest) a w := by
  refine wpList_plain hg fun K' hK' => ?_
  unfold Oper.wp
  simp [execOp, hop, hm, hx, hrun, Result.andThen]
  exact hK' _ _ hK
end

end Go.Proofs.YtjpkmaacalelcaaDoor

/- A region that draws its order, each operation with a predicate on what it yields (kept while old blocks stay), and pairs: a variable's alloc, the operation that yields its value (a struct), its store. Over any program. -/
import Derived.Test.YtjpkmaacalelcaaDoorLA
set_option linter.unusedSimpArgs false
set_option linter.unusedVariables false
set_option linter.unusedSectionVars false
set_option linter.unnecessarySimpa false
namespace Go.Inv
open Go.Lex (NoExit)
structure Pair where
  a : Nat
  v : Nat
  s : Nat
  p : Nat
  q : Nat
  T : TypeId
  z : Nat
  deriving DecidableEq
def special (ps : List Pair) (i : Nat) : Bool := ps.any fun p => p.a == i || p.s == i
theorem special_a {ps : List Pair} {p : Pair} (h : p ∈ ps) : special ps p.a = true := List.any_eq_true.2 ⟨p, h, by simp⟩
theorem special_s {ps : List Pair} {p : Pair} (h : p ∈ ps) : special ps p.s = true := List.any_eq_true.2 ⟨p, h, by simp⟩
theorem special_cases {ps : List Pair} {i : Nat} (h : special ps i = true) : ∃ p ∈ ps, p.a = i ∨ p.s = i := by
  obtain ⟨p, hp, h⟩ := List.any_eq_true.1 h
  exact ⟨p, hp, by simpa using h⟩

theorem fr_row {S : Nat → Prop} {w w' : World} {g : Nat} {cs : Array Value} (h : Fr S w w') (hS : S g ∨ w.heap.size ≤ g) : Fr S w (w'.setRow g cs) :=
  ⟨h.os, h.tape, h.output, by simp [World.setRow, h.size], fun k hk hs => by
    have : g ≠ k := fun e => by rcases hS with m | m; exact hs (e ▸ m); omega
    rw [show (w'.setRow g cs).heap[k]? = w'.heap[k]? from by simp [World.setRow, Array.getElem?_modify, this]]
    exact h.block k hk hs⟩
theorem row_heap (w : World) (g : Nat) (old new : Array Value) (t : TypeId) (h : w.heap[g]? = some (.cells old t (0, 0))) : (w.setRow g new).heap[g]? = some (.cells new t (0, 0)) := by
  simp [World.setRow, Array.getElem?_modify, h]
structure FJ (l : List Oper) (a0 : Act) (n : Nat) (W : World) (ps : List Pair) (D : Nat → Nat) (V : Nat → Value → World → Prop) (x : Nat → Value) (dn : Nat → Bool) (w : World) : Prop where
  fr : Fr no W w
  lt : ∀ i, dn i = true → i < n
  val : ∀ i, dn i = true → special ps i = false → V i (x (D i)) w
  var : ∀ p ∈ ps, dn p.a = true → ∃ (b : Nat) (cs : Array Value), x p.p = .pointer (some ⟨b, 0, none⟩) ∧ W.heap.size ≤ b ∧ w.heap[b]? = some (.cells cs p.T (0, 0)) ∧ cs.size = p.z ∧ (dn p.s = true → x p.q = .agg cs)
  ne : ∀ p ∈ ps, ∀ p' ∈ ps, p ≠ p' → dn p.a = true → dn p'.a = true → x p.p ≠ x p'.p
  st : ∀ p ∈ ps, dn p.s = true → dn p.v = true ∧ dn p.a = true
  un : ∀ i, i < n → dn i = false → special ps i = false → x (D i) = a0.tmps.getD (D i) undef
  cl : ∀ i o, l[i]? = some o → dn i = true → ∀ e ∈ o.after, Region.binds .any e = true → dn e.on = true

/-- the numbers fit: n operations, their slots D, the slots that change ds -/
def slotsB (n : Nat) (ds : List Nat) (ps : List Pair) (D : Nat → Nat) : Bool :=
  ((List.range n).all fun i => special ps i || (ds.contains (D i) && ((List.range n).all fun j => special ps j || i == j || D i != D j) && ps.all fun p => D i != p.p)) &&
  (ps.all fun p => ds.contains p.p && ds.contains p.q && p.q == D p.v && !special ps p.v && decide (p.v < n) && ps.all fun p' => (p.a != p'.a || decide (p = p')) && (p.s != p'.s || decide (p = p')) && p.a != p'.s && (p.p != p'.p || decide (p = p')))

theorem step_mono {P : Program} {o : Oper} {a : Act} {w : World} {K K' : Act → World → Prop} {Q : Exit → Act → World → Prop} (h : Step P o a w K NoExit) (hk : ∀ a' w', K a' w' → K' a' w') : Step P o a w K' Q :=
  ⟨by have := h.out; unfold Oper.wp at this ⊢; exact Lex.upon_q this hk⟩

theorem Step.load_in {P : Program} {o : Oper} {a : Act} {w : World} {K : Act → World → Prop} {Q : Exit → Act → World → Prop} (ty : TypeId) (x : Operand) (ho : o.op = .load ty x)
    (g q : Nat) (hx : a.eval x = .pointer (some ⟨g, q, none⟩)) (cs : List Value) (d : TypeDesc) (hS : At w g q cs) (hu : P.underlying ty = some d)
    (hd : (match d with | .struct _ | .array _ _ => true | _ => false) = true) (hi : (P.info? ty).map (·.size) = some cs.length)
    (h : K (a.put o.dst (.agg cs.toArray)) w) : Step P o a w K Q :=
  Step.value (v := .agg cs.toArray) (by
    unfold execOp
    simp only [ho, hx, Instr.loadAt, Instr.sureAddr, Sem.run_bind, Sem.run_pure, Result.andThen_ok, run_loadVar_in w g q ty cs d hS hu hd hi]) h

theorem Step.run {P : Program} {o : Oper} {a : Act} {w w' : World} {K : Act → World → Prop} {Q : Exit → Act → World → Prop} {v : Value} (hr : (execOp a.eval o).run P w = .ok (.value v) w') (h : K (a.put o.dst v) w') : Step P o a w K Q := by
  refine ⟨?_⟩
  unfold Oper.wp
  rw [hr]
  exact h
section
variable {P : Program} {o : Oper} {a : Act} {w : World} {K : Act → World → Prop} {Q : Exit → Act → World → Prop}
theorem Step.call1 (f : FuncId) (p : Operand) (ts : Array TypeId) (ho : o.op = .call { callee := .value (.func f), args := #[p], argTypes := ts })
    (hf : ∀ (l : Array Value) (w : World), (callFunc f l).run P w = .ok (.enter f l) w) (v : Value) (hv : a.eval p = v)
    (h : Calls P f #[v] w fun e w' => match e with | .returned v => K (a.put o.dst v) w' | _ => False) : Step P o a w K Q :=
  Step.call f #[p] ts ho hf (by rw [List.map_toArray]; simp only [List.map_cons, List.map_nil, hv]; exact h)
theorem Step.call2 (f : FuncId) (p q : Operand) (ts : Array TypeId) (ho : o.op = .call { callee := .value (.func f), args := #[p, q], argTypes := ts })
    (hf : ∀ (l : Array Value) (w : World), (callFunc f l).run P w = .ok (.enter f l) w) (v u : Value) (hv : a.eval p = v) (hu : a.eval q = u)
    (h : Calls P f #[v, u] w fun e w' => match e with | .returned v => K (a.put o.dst v) w' | _ => False) : Step P o a w K Q :=
  Step.call f #[p, q] ts ho hf (by rw [List.map_toArray]; simp only [List.map_cons, List.map_nil, hv, hu]; exact h)
end

set_option maxHeartbeats 1000000 in
theorem freeR {P : Program} {id : Nat} {a0 : Act} {W : World} {Q : Exit → Act → World → Prop} (l : List Oper) (ds : List Nat) (ps : List Pair) (D : Nat → Nat) (V : Nat → Value → World → Prop) (Rel : World → World → Prop)
    (hm : P.follows .mixedOrders = true) (hB : (backB .any l.toArray && l.all (·.guard.isNone)) = true) (hfit : slotsB l.length ds ps D = true) (hD : (l.zipIdx.all fun x => special ps x.2 || x.1.dst == some (D x.2)) = true) (sz : Nat) (hsz0 : a0.tmps.size = sz) (hsz1 : (ds.all fun k => decide (k < sz)) = true)
    (hst : ∀ i v w w' (S : Nat → Prop), Fr no W w → V i v w → Fr S w w' → (∀ k, S k → W.heap.size ≤ k ∧ ∃ p ∈ ps, ∃ cs : Array Value, w.heap[k]? = some (.cells cs p.T (0, 0))) → V i v w')
    (hrel : ∀ w w', Fr no W w → Rel w w' → Fr no W w' ∧ (∀ i v, V i v w → V i v w') ∧ ∀ p ∈ ps, ∀ (b : Nat) (cs : Array Value), w.heap[b]? = some (.cells cs p.T (0, 0)) → w'.heap[b]? = some (.cells cs p.T (0, 0)))
    (hpa : ∀ p ∈ ps, ∃ o, l[p.a]? = some o ∧ o.op = .alloc p.T ∧ o.dst = some p.p) (hps : ∀ p ∈ ps, ∃ o, l[p.s]? = some o ∧ o.op = .store p.T (.tmp p.p) (.tmp p.q) ∧ o.dst = none ∧ (∃ e ∈ o.after, Region.binds .any e = true ∧ e.on = p.a) ∧ (∃ e ∈ o.after, Region.binds .any e = true ∧ e.on = p.v))
    (hzero : ∀ p ∈ ps, ∃ zv : Value, (∀ w, (zeroValue p.T).run P w = .ok zv w) ∧ zv.cells.size = p.z) (hinfo : ∀ p ∈ ps, (P.info? p.T).map (·.size) = some p.z)
    (hval : ∀ p ∈ ps, ∀ u w, V p.v u w → ∃ cs : Array Value, u = .agg cs ∧ cs.size = p.z ∧ cs.all (·.oneCell') = true)
    (hstep : ∀ i o, l[i]? = some o → special ps i = false → ∀ (x : Nat → Value) (dn : Nat → Bool) w, Fr no W w → (∀ e ∈ o.after, Region.binds .any e = true → dn e.on = true) → (∀ j, dn j = true → special ps j = false → V j (x (D j)) w) → dn i = false → (∀ j, j < l.length → dn j = false → special ps j = false → x (D j) = a0.tmps.getD (D j) undef) → (∀ j o, l[j]? = some o → dn j = true → ∀ e ∈ o.after, Region.binds .any e = true → dn e.on = true) →
      Step P o (over a0 ds x) w (fun a' w' => ∃ v, a' = (over a0 ds x).put (some (D i)) v ∧ V i v w' ∧ (Fr no w w' ∨ Rel w w')) NoExit)
    (hend : ∀ (x : Nat → Value) w, Fr no W w → (∀ i, i < l.length → special ps i = false → V i (x (D i)) w) → (∀ p ∈ ps, ∃ (b : Nat) (cs : Array Value), x p.p = .pointer (some ⟨b, 0, none⟩) ∧ W.heap.size ≤ b ∧ w.heap[b]? = some (.cells cs p.T (0, 0)) ∧ x p.q = .agg cs) →
      (∀ p ∈ ps, ∀ p' ∈ ps, p ≠ p' → x p.p ≠ x p'.p) → Q .normal (over a0 ds x) w) : (Code.region id l.toArray true).wp P Q a0 W := by
  simp only [slotsB, Bool.and_eq_true, List.all_eq_true, Bool.or_eq_true, bne_iff_ne, ne_eq, beq_iff_eq, List.mem_range, List.contains_iff_mem, Bool.not_eq_true', decide_eq_true_eq] at hfit
  obtain ⟨f1, f2⟩ := hfit
  have hsz : ∀ k ∈ ds, k < a0.tmps.size := fun k hk => by
    have := List.all_eq_true.1 hsz1 k hk
    rw [hsz0]
    simpa using this
  have g1 : ∀ i, i < l.length → special ps i = false → D i ∈ ds ∧ (∀ j, j < l.length → special ps j = false → j ≠ i → D i ≠ D j) ∧ ∀ p ∈ ps, D i ≠ p.p := fun i hi hs => by
    rcases f1 i hi with h | ⟨⟨h1, h2⟩, h3⟩
    · rw [hs] at h; cases h
    · refine ⟨h1, fun j hj hsj hne => ?_, h3⟩
      rcases h2 j hj with (h | h) | h
      · rw [hsj] at h; cases h
      · exact (hne h.symm).elim
      · exact h
  refine region_over l ds hm hB (FJ l a0 l.length W ps D V) ?_ ?_ ?_
  · exact ⟨(Fr.refl no W).drew, (fun i h => by cases h), (fun i h => by cases h), (fun p _ h => by cases h), (fun p _ p' _ _ h => by cases h), (fun p _ h => by cases h), (fun i _ _ _ => rfl), (fun i o _ h => by cases h)⟩
  · intro x dn w i o hJ ho hd hdep
    have hil : i < l.length := (List.getElem?_eq_some_iff.1 ho).1
    have hdn : ∀ k, k ≠ i → (k == i || dn k) = true → dn k = true := fun k hk h => by
      simpa [hk] using h
    have hlt : ∀ k, (k == i || dn k) = true → k < l.length := fun k h => by
      by_cases e : k = i
      · omega
      · exact hJ.lt k (hdn k e h)
    have hup : ∀ k, dn k = true → (k == i || dn k) = true := fun k h => by simp [h]
    have hun : ∀ k, (k == i || dn k) = false → k ≠ i ∧ dn k = false := fun k h => by simpa using h
    have hcl : ∀ k o', l[k]? = some o' → (k == i || dn k) = true → ∀ e ∈ o'.after, Region.binds .any e = true → (e.on == i || dn e.on) = true := fun k o' hk h e he hb => by
      by_cases hki : k = i
      · subst hki
        rw [ho] at hk
        cases hk
        exact hup _ (hdep e he hb)
      · exact hup _ (hJ.cl k o' hk (hdn k hki h) e he hb)
    by_cases hs : special ps i = true
    · obtain ⟨p, hp, hpi⟩ := special_cases hs
      obtain ⟨⟨⟨⟨⟨k1, k2⟩, k3⟩, k4⟩, k5⟩, k6⟩ := f2 p hp
      have k7 : ∀ p' ∈ ps, p ≠ p' → p.a ≠ p'.a ∧ p.s ≠ p'.s ∧ p.p ≠ p'.p := fun p' hp' hne => by
        obtain ⟨⟨⟨h1, h2⟩, h3⟩, h4⟩ := k6 p' hp'
        exact ⟨h1.resolve_right hne, h2.resolve_right hne, h4.resolve_right hne⟩
      have k8 : ∀ p' ∈ ps, p.a ≠ p'.s := fun p' hp' => (k6 p' hp').1.2
      have k9 : ∀ p' ∈ ps, p'.a ≠ p.s := fun p' hp' => by
        obtain ⟨_, q6⟩ := f2 p' hp'
        exact (q6 p hp).1.2
      rcases hpi with hpi | hpi
      · -- the alloc
        obtain ⟨o1, h1, h2, h3⟩ := hpa p hp
        rw [hpi, ho] at h1
        cases h1
        obtain ⟨zv, hz1, hz2⟩ := hzero p hp
        refine Step.alloc p.T zv h2 (hz1 w) ?_
        rw [h3]
        refine ⟨_, over_put k1, ?_⟩
        have r := (Fr.refl no w).alloc (.cells zv.cells p.T)
        have hns : dn p.s = false := by
          cases h : dn p.s with
          | false => rfl
          | true => have := (hJ.st p hp h).2; rw [hpi, hd] at this; cases this
        refine ⟨hJ.fr.trans r, hlt, fun j hj hsj => ?_, fun p' hp' hj => ?_, fun p1 hp1 p2 hp2 hne ha1 ha2 => ?_, fun p' hp' hj => ?_, fun j hj hdj hsj => ?_, hcl⟩
        rotate_right
        · show (if D j = p.p then _ else x (D j)) = _
          rw [if_neg ((g1 j hj hsj).2.2 p hp)]
          exact hJ.un j hj (hun j hdj).2 hsj
        · have hji : j ≠ i := fun e => by rw [e, hs] at hsj; cases hsj
          have hV := hJ.val j (hdn j hji hj) hsj
          show V j (if D j = p.p then _ else x (D j)) _
          rw [if_neg ((g1 j (hlt j hj) hsj).2.2 p hp)]
          exact hst j _ w _ no hJ.fr hV r (fun k hk => hk.elim)
        · by_cases hpp : p = p'
          · subst hpp
            refine ⟨w.heap.size, zv.cells, by simp, hJ.fr.size, heap_new w _, hz2, fun h => ?_⟩
            have := hdn p.s (fun e => k8 p hp (hpi.trans e.symm)) h
            rw [hns] at this; cases this
          · have hka := (k7 p' hp' hpp)
            obtain ⟨b, cs, e1, e2, e3, e4, e5⟩ := hJ.var p' hp' (hdn p'.a (fun e => hka.1 (hpi.trans e.symm)) hj)
            refine ⟨b, cs, ?_, e2, r.heap e3 (by simp), e4, fun h => ?_⟩
            · show (if p'.p = p.p then _ else x p'.p) = _
              rw [if_neg (fun e => hka.2.2 e.symm)]; exact e1
            · have h' := hdn p'.s (fun e => k8 p' hp' (hpi.trans e.symm)) h
              show (if p'.q = p.p then _ else x p'.q) = _
              obtain ⟨⟨⟨⟨⟨_, _⟩, q3⟩, q4⟩, q5⟩, _⟩ := f2 p' hp'
              rw [if_neg (fun e => (g1 p'.v q5 q4).2.2 p hp (by rw [← q3]; exact e))]
              exact e5 h'
        · have hold : ∀ p' ∈ ps, p ≠ p' → (p'.a == i || dn p'.a) = true → (if p.p = p.p then Value.pointer (some ⟨w.heap.size, 0, none⟩) else x p.p) ≠ (if p'.p = p.p then Value.pointer (some ⟨w.heap.size, 0, none⟩) else x p'.p) := fun p' hp' hpp hj => by
            have hka := (k7 p' hp' hpp)
            obtain ⟨b, cs, e1, e2, e3, e4, e5⟩ := hJ.var p' hp' (hdn p'.a (fun e => hka.1 (hpi.trans e.symm)) hj)
            rw [if_pos rfl, if_neg (fun e => hka.2.2 e.symm), e1]
            have h0 := (Array.getElem?_eq_some_iff.1 e3).1
            intro e
            have e' : w.heap.size = b := by simpa using e
            omega
          show (if p1.p = p.p then _ else x p1.p) ≠ (if p2.p = p.p then _ else x p2.p)
          by_cases q1 : p = p1
          · subst q1; exact hold p2 hp2 hne ha2
          · by_cases q2 : p = p2
            · subst q2; exact (hold p1 hp1 q1 ha1).symm
            · rw [if_neg (fun e => (k7 p1 hp1 q1).2.2 e.symm), if_neg (fun e => (k7 p2 hp2 q2).2.2 e.symm)]
              exact hJ.ne p1 hp1 p2 hp2 hne (hdn p1.a (fun e => (k7 p1 hp1 q1).1 (hpi.trans e.symm)) ha1) (hdn p2.a (fun e => (k7 p2 hp2 q2).1 (hpi.trans e.symm)) ha2)
        · have h' := hdn p'.s (fun e => k8 p' hp' (hpi.trans e.symm)) hj
          obtain ⟨q1, q2⟩ := hJ.st p' hp' h'
          exact ⟨hup _ q1, hup _ q2⟩
      · -- the store
        obtain ⟨o1, h1, h2, h3, ⟨ea, ha1, ha2, ha3⟩, ev, hv1, hv2, hv3⟩ := hps p hp
        rw [hpi, ho] at h1
        cases h1
        have da : dn p.a = true := by have := hdep ea ha1 ha2; rwa [ha3] at this
        have dv : dn p.v = true := by have := hdep ev hv1 hv2; rwa [hv3] at this
        obtain ⟨b, cs, e1, e2, e3, e4, -⟩ := hJ.var p hp da
        obtain ⟨new, n1, n2, n3⟩ := hval p hp _ _ (hJ.val p.v dv k4)
        rw [← k3] at n1
        refine Step.store_row p.T (.tmp p.p) (.tmp p.q) h2 b new ((over_slot k1 (hsz _ k1)).trans e1) ((over_slot k2 (hsz _ k2)).trans n1) _ _ e3 (by rw [hinfo p hp, n2]) (by rw [e4, n2]) n3 ?_
        rw [h3]
        refine ⟨x, rfl, ?_⟩
        have r : Fr (only [b]) w (w.setRow b new) := fr_row (Fr.refl _ w) (.inl (by simp))
        refine ⟨fr_row hJ.fr (.inr e2), hlt, fun j hj hsj => ?_, fun p' hp' hj => ?_, fun p1 hp1 p2 hp2 hne h1 h2 => ?_, fun p' hp' hj => ?_, fun j hj hdj hsj => hJ.un j hj (hun j hdj).2 hsj, hcl⟩
        · have hji : j ≠ i := fun e => by rw [e, hs] at hsj; cases hsj
          refine hst j _ w _ (only [b]) hJ.fr (hJ.val j (hdn j hji hj) hsj) r (fun k hk => ?_)
          simp only [only_iff, List.mem_singleton] at hk
          subst hk
          exact ⟨e2, p, hp, cs, e3⟩
        · by_cases hpp : p = p'
          · subst hpp
            exact ⟨b, new, e1, e2, row_heap w b _ new _ e3, n2, fun _ => n1⟩
          · have hka := (k7 p' hp' hpp)
            have hda := hdn p'.a (fun e => k9 p' hp' (e.trans hpi.symm)) hj
            obtain ⟨b', cs', c1, c2, c3, c4, c5⟩ := hJ.var p' hp' hda
            refine ⟨b', cs', c1, c2, r.heap c3 (fun he => ?_), c4, fun h => c5 (hdn p'.s (fun e => hka.2.1 (hpi.trans e.symm)) h)⟩
            simp at he
            subst he
            exact hJ.ne p hp p' hp' hpp da hda (e1.trans c1.symm)
        · exact hJ.ne p1 hp1 p2 hp2 hne (hdn p1.a (fun e => k9 p1 hp1 (e.trans hpi.symm)) h1) (hdn p2.a (fun e => k9 p2 hp2 (e.trans hpi.symm)) h2)
        · by_cases hpp : p = p'
          · subst hpp
            exact ⟨hup _ dv, hup _ da⟩
          · obtain ⟨q1, q2⟩ := hJ.st p' hp' (hdn p'.s (fun e => (k7 p' hp' hpp).2.1 (hpi.trans e.symm)) hj)
            exact ⟨hup _ q1, hup _ q2⟩
    · have hs' : special ps i = false := by simpa using hs
      have hdst : o.dst = some (D i) := by
        have := List.all_eq_true.1 hD (o, i) (by rw [List.mem_zipIdx_iff_getElem?]; exact ho)
        simpa [hs'] using this
      obtain ⟨m1, m2, m3⟩ := g1 i hil hs'
      refine step_mono (hstep i o ho hs' x dn w hJ.fr hdep hJ.val hd hJ.un hJ.cl) ?_
      rintro a' w' ⟨v, rfl, hV, hr⟩
      refine ⟨_, over_put m1, ?_⟩
      obtain ⟨r1, r2, r3⟩ : Fr no W w' ∧ (∀ i v, V i v w → V i v w') ∧ ∀ p ∈ ps, ∀ (b : Nat) (cs : Array Value), w.heap[b]? = some (.cells cs p.T (0, 0)) → w'.heap[b]? = some (.cells cs p.T (0, 0)) := by
        rcases hr with r | r
        · exact ⟨hJ.fr.trans r, fun i v h => hst i v w w' no hJ.fr h r (fun k hk => hk.elim), fun p _ b cs h => r.heap h (by simp)⟩
        · exact hrel w w' hJ.fr r
      have hna : ∀ p ∈ ps, p.a ≠ i ∧ p.s ≠ i := fun p hp => ⟨fun e => hs (e ▸ special_a hp), fun e => hs (e ▸ special_s hp)⟩
      refine ⟨r1, hlt, fun j hj hsj => ?_, fun p hp hj => ?_, fun p1 hp1 p2 hp2 hne h1 h2 => ?_, fun p hp hj => ?_, fun j hj hdj hsj => ?_, hcl⟩
      rotate_right
      · show (if D j = D i then v else x (D j)) = _
        rw [if_neg (fun e => m2 j hj hsj (hun j hdj).1 e.symm)]
        exact hJ.un j hj (hun j hdj).2 hsj
      · show V j (if D j = D i then v else x (D j)) _
        by_cases hji : j = i
        · subst hji
          rw [if_pos rfl]
          exact hV
        · rw [if_neg (fun e => m2 j (hlt j hj) hsj hji e.symm)]
          exact r2 j _ (hJ.val j (hdn j hji hj) hsj)
      · obtain ⟨b, cs, e1, e2, e3, e4, e5⟩ := hJ.var p hp (hdn _ (hna p hp).1 hj)
        refine ⟨b, cs, ?_, e2, r3 p hp b cs e3, e4, fun h => ?_⟩
        · show (if p.p = D i then v else x p.p) = _
          rw [if_neg (fun e => m3 p hp e.symm)]; exact e1
        · have h' := hdn _ (hna p hp).2 h
          obtain ⟨⟨⟨⟨⟨_, _⟩, q3⟩, q4⟩, q5⟩, _⟩ := f2 p hp
          have hvi : p.v ≠ i := fun e => by have := (hJ.st p hp h').1; rw [e, hd] at this; cases this
          show (if p.q = D i then v else x p.q) = _
          rw [if_neg (fun e => m2 p.v q5 q4 hvi (by rw [← q3]; exact e.symm))]
          exact e5 h'
      · show (if p1.p = D i then v else x p1.p) ≠ (if p2.p = D i then v else x p2.p)
        rw [if_neg (fun e => m3 p1 hp1 e.symm), if_neg (fun e => m3 p2 hp2 e.symm)]
        exact hJ.ne p1 hp1 p2 hp2 hne (hdn _ (hna p1 hp1).1 h1) (hdn _ (hna p2 hp2).1 h2)
      · obtain ⟨q1, q2⟩ := hJ.st p hp (hdn _ (hna p hp).2 hj)
        exact ⟨hup _ q1, hup _ q2⟩
  · intro x dn w hJ hall
    refine hend x w hJ.fr (fun i hi hs => hJ.val i (hall i hi) hs) (fun p hp => ?_) (fun p1 hp1 p2 hp2 hne => ?_)
    · obtain ⟨o1, h1, -⟩ := hpa p hp
      obtain ⟨o2, h2, -⟩ := hps p hp
      obtain ⟨b, cs, e1, e2, e3, e4, e5⟩ := hJ.var p hp (hall _ (List.getElem?_eq_some_iff.1 h1).1)
      exact ⟨b, cs, e1, e2, e3, e5 (hall _ (List.getElem?_eq_some_iff.1 h2).1)⟩
    · obtain ⟨o1, h1, -⟩ := hpa p1 hp1
      obtain ⟨o2, h2, -⟩ := hpa p2 hp2
      exact hJ.ne p1 hp1 p2 hp2 hne (hall _ (List.getElem?_eq_some_iff.1 h1).1) (hall _ (List.getElem?_eq_some_iff.1 h2).1)
set_option maxHeartbeats 1000000 in
theorem free {P : Program} {id : Nat} {a0 : Act} {W : World} {Q : Exit → Act → World → Prop} (l : List Oper) (ds : List Nat) (ps : List Pair) (D : Nat → Nat) (V : Nat → Value → World → Prop)
    (hm : P.follows .mixedOrders = true) (hB : (backB .any l.toArray && l.all (·.guard.isNone)) = true) (hfit : slotsB l.length ds ps D = true) (hD : (l.zipIdx.all fun x => special ps x.2 || x.1.dst == some (D x.2)) = true) (sz : Nat) (hsz0 : a0.tmps.size = sz) (hsz1 : (ds.all fun k => decide (k < sz)) = true)
    (hst : ∀ i v w w' (S : Nat → Prop), Fr no W w → V i v w → Fr S w w' → (∀ k, S k → W.heap.size ≤ k ∧ ∃ p ∈ ps, ∃ cs : Array Value, w.heap[k]? = some (.cells cs p.T (0, 0))) → V i v w')
    (hpa : ∀ p ∈ ps, ∃ o, l[p.a]? = some o ∧ o.op = .alloc p.T ∧ o.dst = some p.p) (hps : ∀ p ∈ ps, ∃ o, l[p.s]? = some o ∧ o.op = .store p.T (.tmp p.p) (.tmp p.q) ∧ o.dst = none ∧ (∃ e ∈ o.after, Region.binds .any e = true ∧ e.on = p.a) ∧ (∃ e ∈ o.after, Region.binds .any e = true ∧ e.on = p.v))
    (hzero : ∀ p ∈ ps, ∃ zv : Value, (∀ w, (zeroValue p.T).run P w = .ok zv w) ∧ zv.cells.size = p.z) (hinfo : ∀ p ∈ ps, (P.info? p.T).map (·.size) = some p.z)
    (hval : ∀ p ∈ ps, ∀ u w, V p.v u w → ∃ cs : Array Value, u = .agg cs ∧ cs.size = p.z ∧ cs.all (·.oneCell') = true)
    (hstep : ∀ i o, l[i]? = some o → special ps i = false → ∀ (x : Nat → Value) (dn : Nat → Bool) w, Fr no W w → (∀ e ∈ o.after, Region.binds .any e = true → dn e.on = true) → (∀ j, dn j = true → special ps j = false → V j (x (D j)) w) → dn i = false → (∀ j, j < l.length → dn j = false → special ps j = false → x (D j) = a0.tmps.getD (D j) undef) → (∀ j o, l[j]? = some o → dn j = true → ∀ e ∈ o.after, Region.binds .any e = true → dn e.on = true) →
      Step P o (over a0 ds x) w (fun a' w' => ∃ v, a' = (over a0 ds x).put (some (D i)) v ∧ V i v w' ∧ Fr no w w') NoExit)
    (hend : ∀ (x : Nat → Value) w, Fr no W w → (∀ i, i < l.length → special ps i = false → V i (x (D i)) w) → (∀ p ∈ ps, ∃ (b : Nat) (cs : Array Value), x p.p = .pointer (some ⟨b, 0, none⟩) ∧ W.heap.size ≤ b ∧ w.heap[b]? = some (.cells cs p.T (0, 0)) ∧ x p.q = .agg cs) →
      (∀ p ∈ ps, ∀ p' ∈ ps, p ≠ p' → x p.p ≠ x p'.p) → Q .normal (over a0 ds x) w) : (Code.region id l.toArray true).wp P Q a0 W :=
  freeR l ds ps D V (fun _ _ => False) hm hB hfit hD sz hsz0 hsz1 hst (fun _ _ _ h => h.elim) hpa hps hzero hinfo hval (fun i o ho hs x dn w hfr hdep hV h1 h2 h3 => step_mono (hstep i o ho hs x dn w hfr hdep hV h1 h2 h3) (fun a' w' ⟨v, h1, h2, h3⟩ => ⟨v, h1, h2, .inl h3⟩)) hend
end Go.Inv

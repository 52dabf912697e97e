import Derived.Test.YtihnkijeefkefaaGreatLA
import Derived.Test.YtihnkijeefkefaaGreatLH
import Derived.Test.YtihnkijeefkefaaGreatLJ
set_option linter.unusedSimpArgs false
set_option linter.unusedVariables false
set_option linter.unusedSectionVars false
set_option linter.unnecessarySimpa false
set_option maxRecDepth 100000
/- The elements of a slice whose elements are structs. Over any program. -/
namespace Go
theorem reads_elem {w : World} {sa : Option Addr} {n c k z : Nat} {cs : List Value} (h : Reads w (.slice sa n c) z n cs) (hz : 0 < z) (hk : k < n) : ∃ b o, sa = some ⟨b, o, none⟩ ∧ At w b (o + k * z) ((cs.drop (k * z)).take z) := by
  rcases h with ⟨_, rfl, _⟩ | ⟨a, cap, hv, h1, h2, h3, h4⟩
  · omega
  · cases hv
    have hlen : k * z + z ≤ cs.length := by
      rw [h3]
      have := Nat.mul_le_mul_right z (show k + 1 ≤ n from hk)
      rw [Nat.add_mul] at this
      omega
    obtain ⟨u, hu⟩ : ∃ u, cs[0]? = some u := ⟨cs[0]'(by omega), List.getElem?_eq_getElem (by omega)⟩
    have h5 := h4 0 u hu
    have ea : a = ⟨a.block, a.off, none⟩ := by
      have := spot_none h5
      rwa [show a.add 0 = a from by unfold Addr.add; simp] at this
    generalize a.block = b at ea
    generalize a.off = o at ea
    subst ea
    refine ⟨b, o, rfl, fun j v hj => ?_⟩
    rw [List.getElem?_take] at hj
    split at hj
    · rw [List.getElem?_drop] at hj
      have := h4 _ v hj
      rw [Addr.add_lit] at this
      rw [Nat.add_assoc]
      exact this
    · cases hj
theorem cap_of_reads {w : World} {z n c : Nat} {a : Option Addr} {cs : List Value} (h : Reads w (.slice a n c) z n cs) : n ≤ c := by
  rcases h with ⟨h, h2, -⟩ | ⟨b, cap, h, h2, -⟩
  · cases h; exact Nat.le_refl _
  · cases h; exact h2
/-- blocks of two types are two -/
theorem block_ne {w : World} {a b : Nat} {c1 c2 : Array Value} {t1 t2 : TypeId} (h1 : w.heap[a]? = some (.cells c1 t1 (0, 0))) (h2 : w.heap[b]? = some (.cells c2 t2 (0, 0))) (h : t1 ≠ t2) : a ≠ b := by
  rintro rfl
  rw [h1] at h2
  simp at h2
  exact h h2.2
theorem rows_ne {w : World} {base base' n m z z' : Nat} {e e' : TypeId} {u v : Value} {xs ys : List Value} (h : w.ownsRow base e z u n xs) (k : w.ownsRow base' e' z' v m ys) (hne : e ≠ e') : ∀ i, u.ownBlock = some i → v.ownBlock ≠ some i := by
  intro i hi hj
  rcases h.2 with ⟨rfl, -⟩ | ⟨g, cap, cur, rfl, -, hg, -⟩
  · cases hi
  rcases k.2 with ⟨rfl, -⟩ | ⟨g', cap', cur', rfl, -, hg', -⟩
  · cases hj
  have h1 : g = i := by simpa [Value.ownBlock] using hi
  have h2 : g' = i := by simpa [Value.ownBlock] using hj
  subst h1
  subst h2
  exact block_ne hg hg' hne rfl
theorem row_block_ne {w : World} {base b n z : Nat} {e t : TypeId} {u : Value} {xs : List Value} {c : Array Value} (h : w.ownsRow base e z u n xs) (k : w.heap[b]? = some (.cells c t (0, 0))) (hne : e ≠ t) : u.ownBlock ≠ some b := by
  intro hi
  rcases h.2 with ⟨rfl, -⟩ | ⟨g, cap, cur, rfl, -, hg, -⟩
  · cases hi
  have h1 : g = b := by simpa [Value.ownBlock] using hi
  subst h1
  exact block_ne hg k hne rfl
end Go

/- Rows of numbers whose spare room holds numbers too: what an append keeps. Over any program. -/
namespace Go
def Nums (k : IntKind) (w : World) (v : Value) : Prop := ∀ g cur t z, v.ownBlock = some g → w.heap[g]? = some (.cells cur t z) → ∀ x ∈ cur.toList, ∃ n : Int, x = .int k n
variable {w w' : World} {k : IntKind} {v : Value}
theorem Nums.nil (k : IntKind) (w : World) (n c : Nat) : Nums k w (.slice none n c) := fun _ _ _ _ h => by cases h
theorem Nums.frx {S : Nat → Prop} (h : Nums k w v) (r : Fr S w w') (hl : ∀ g, v.ownBlock = some g → g < w.heap.size) (hS : ∀ g, v.ownBlock = some g → ¬ S g) : Nums k w' v := fun g cur t z hg hh =>
  h g cur t z hg (by rw [← r.block g (hl g hg) (hS g hg)]; exact hh)
theorem Nums.fr (h : Nums k w v) (r : Fr no w w') (hl : ∀ g, v.ownBlock = some g → g < w.heap.size) : Nums k w' v := h.frx r hl (by simp)
theorem Nums.made {cs : Array Value} {e : TypeId} {n c : Nat} (h : ∀ x ∈ cs.toList, ∃ n : Int, x = .int k n) : Nums k (w.alloc (.cells cs e)) (.slice (some ⟨w.heap.size, 0, none⟩) n c) := fun g cur t z hg hh => by
  have : w.heap.size = g := by simpa [Value.ownBlock] using hg
  subst this
  rw [heap_new] at hh
  cases hh
  exact h
theorem zero_mem {z : Value} (hz : z.cells = #[z]) (n : Nat) : ∀ x ∈ (Builtin.zeroCells z.cells n).toList, x = z := by
  intro x hx
  rw [hz] at hx
  simp only [Builtin.zeroCells, Array.toList_map, List.mem_map] at hx
  obtain ⟨i, -, rfl⟩ := hx
  simp [Nat.mod_one]

theorem run_append_nu {P : Program} (w : World) (base : Nat) (t ty e : TypeId) (i : TypeInfo) (z : Value) (bytes : Nat) (ht : P.underlying t = some (.slice e)) (hi : P.info? e = some i) (hz : i.zero = some z)
    (hsize : i.size = 1) (hby : i.bytes = bytes) (hzs : z.cells = #[z]) {zn : Int} (hzk : z = .int k zn)
    (v : Value) (n : Nat) (xs : List Value) (hown : w.ownsRow base e 1 v n xs)
    (a : Addr) (m c : Nat) (news : List Value) (hl : news.length = m * 1) (hnews : ∀ j u, news[j]? = some u → w.cell? (a.add j) = some u) (h1 : ∀ u ∈ news, u.oneCell' = true)
    (h63 : n + m ≤ maxLen) (hbytes : (n + m) * bytes ≤ 140737488355328) (hbase : base ≤ w.heap.size) (hN : Nums k w v) (hnu : ∀ u ∈ news, ∃ q : Int, u = .int k q) :
    ∃ v' w', (Builtin.append_ #[t, t] ty #[v, .slice (some a) m c]).run P w = .ok v' w' ∧ w'.ownsRow base e 1 v' (n + m) (xs ++ news) ∧ w.grownBy w' v.ownBlock ∧
      (v'.ownBlock = v.ownBlock ∨ v'.ownBlock = some w.heap.size) ∧ Nums k w' v' := by
  obtain ⟨v', w', hrun, ho, hg, hw⟩ := run_append_where (P := P) w base t ty e i z 1 bytes ht hi hz hsize hby (by rw [hzs]; rfl) (by decide) v n xs hown a m c news hl hnews h1 h63 hbytes hbase
  refine ⟨v', w', hrun, ho, hg, hw, ?_⟩
  have h63' : n + m ≤ 9223372036854775807 := by simpa [maxLen] using h63
  rcases hown.2 with ⟨rfl, rfl⟩ | ⟨g, cap, cur, rfl, hb, hh, h2, h3, h4, h5⟩
  · by_cases hm : m = 0
    · have h0 := ho.2
      rcases h0 with ⟨rfl, -⟩ | ⟨g, cap, cur, rfl, -, hgg, hcap, -, -, htk⟩
      · exact Nums.nil _ _ _ _
      · exfalso
        obtain ⟨v2, w2, hrun2, -, -, hnil⟩ := run_append_own (P := P) w base t ty e i z 1 bytes ht hi hz hsize hby (by rw [hzs]; rfl) (by decide) (.slice none 0 0) 0 xs hown a m c news hl hnews h1 h63 hbytes hbase
        rw [hrun] at hrun2
        cases hrun2
        have := hnil.2 ⟨rfl, hm⟩
        cases this
    · have := run_append_nil (P := P) w t ty e i z ht hi hz a m c news (by rw [hl, hsize]) hnews (by omega) (by omega) (by rw [hby]; simp at hbytes; omega)
      rw [this] at hrun
      cases hrun
      refine Nums.made (w := w.drew) (fun x hx => ?_)
      rw [Array.toList_append, List.mem_append] at hx
      rcases hx with hx | hx
      · exact hnu x (by simpa using hx)
      · exact ⟨zn, by rw [zero_mem hzs _ x hx, hzk]⟩
  · have hcur : ∀ x ∈ cur.toList, ∃ q : Int, x = .int k q := hN g cur e (0, 0) rfl hh
    by_cases hroom : n + m ≤ cap
    · have hfit : n * i.size + news.length ≤ cur.size := by
        rw [hl, h4, hsize, ← Nat.add_mul]
        exact Nat.mul_le_mul_right _ hroom
      have := run_append_room (P := P) w t ty e i ht hi g n cap cur hh a m c news (by rw [hl, hsize]) hnews h1 hroom hfit
      rw [this] at hrun
      cases hrun
      intro g' cur' t' z' hg' hh'
      have : g = g' := by simpa [Value.ownBlock] using hg'
      subst this
      rw [show (w.setRow g (cur.toList.take (n * i.size) ++ news ++ cur.toList.drop (n * i.size + news.length)).toArray).heap[g]? = some (.cells (cur.toList.take (n * i.size) ++ news ++ cur.toList.drop (n * i.size + news.length)).toArray e (0, 0)) from by
        simp [World.setRow, Array.getElem?_modify, hh]] at hh'
      cases hh'
      intro x hx
      simp only [List.mem_append] at hx
      rcases hx with (hx | hx) | hx
      · exact hcur x (List.mem_of_mem_take hx)
      · exact hnu x hx
      · exact hcur x (List.mem_of_mem_drop hx)
    · have := run_append_grow (P := P) w t ty e i z ht hi hz ⟨g, 0, none⟩ n cap xs (by rw [hown.1, hsize]) (hown.cells rfl) a m c news (by rw [hl, hsize]) hnews (by omega) (by omega)
        (growslice_fits (by omega) (by rw [hby]; exact hbytes))
      rw [this] at hrun
      cases hrun
      refine Nums.made (w := w.drew) (fun x hx => ?_)
      rw [Array.toList_append, Array.toList_append, List.mem_append, List.mem_append] at hx
      rcases hx with (hx | hx) | hx
      · have hx' : x ∈ xs := by simpa using hx
        rw [← h5] at hx'
        exact hcur x (List.mem_of_mem_take hx')
      · exact hnu x (by simpa using hx)
      · exact ⟨zn, by rw [zero_mem hzs _ x hx, hzk]⟩

/-- append onto a row of numbers of the call's own -/
theorem wpList_append_nu {P : Program} {w : World} {ops : Array Oper} {rest : List Oper} {o : Oper} {a : Act} {Q : Exit → Act → World → Prop} {k : IntKind} (hgd : o.guard = none) (s x : Operand) (t : TypeId)
    (ho : o.op = .call { callee := .builtin .append, args := #[s, x], argTypes := #[t, t] })
    (base : Nat) (e : TypeId) (zn : Int) (bytes : Nat) (ht : P.underlying t = some (.slice e)) (hi : (P.info? e).map (fun i => (i.zero, i.size, i.bytes)) = some (some (.int k zn), 1, bytes))
    (v : Value) (n : Nat) (xs : List Value) (hs : a.eval s = v) (hown : w.ownsRow base e 1 v n xs)
    (m : Nat) (news : List Value) (hr : Reads w (a.eval x) 1 m news) (h1 : ∀ u ∈ news, u.oneCell' = true)
    (h63 : n + m ≤ maxLen) (hbytes : (n + m) * bytes ≤ 140737488355328) (hbase : base ≤ w.heap.size) (hN : Nums k w v) (hnu : ∀ u ∈ news, ∃ q : Int, u = .int k q)
    (h : ∀ a' c' w', w'.ownsRow base e 1 (.slice a' (n + m) c') (n + m) (xs ++ news) → w.grownBy w' v.ownBlock →
      (∀ k, (Value.slice a' (n + m) c').ownBlock = some k → v.ownBlock = some k ∨ k = w.heap.size) → Nums k w' (.slice a' (n + m) c') → wpList P ops Q rest (a.put o.dst (.slice a' (n + m) c')) w') : wpList P ops Q (o :: rest) a w := by
  obtain ⟨i0, hi, hz0, hz1, hz2⟩ := info_parts hi
  rcases hr with ⟨hx, rfl, rfl⟩ | ⟨ad, cap, hx, _, _, hl, hc⟩
  · obtain ⟨a', c', hv⟩ := owns_shape hown
    refine wpList_append_own_none hgd s x t ho base e i0 1 ht hi v n xs hs hown hx ?_
    have := h a' c' w (by simpa [← hv] using hown) (World.grownBy.refl w _) (fun k hk => .inl (by rw [hv]; exact hk)) (by have := hN; rw [hv] at this; exact this)
    rw [hv]; exact this
  · obtain ⟨v', w', hrun, h2, h3, h4, h5⟩ := run_append_nu (P := P) w base t o.type e i0 (.int k zn) bytes ht hi hz0 hz1 hz2 rfl rfl v n xs hown ad m cap news hl hc h1 h63 hbytes hbase hN hnu
    refine wpList_plain hgd fun K hK => ?_
    obtain ⟨a', c', hv⟩ := owns_shape h2
    subst hv
    have hk := h a' c' w' h2 h3 (fun k hk => by
      rcases h4 with h4 | h4
      · exact .inl (h4 ▸ hk)
      · rw [h4] at hk; exact .inr (Option.some.inj hk).symm) h5
    unfold Oper.wp
    simp [execOp, ho, resolve, invoke, builtin, hs, hx, hrun, Result.andThen]
    exact hK _ _ hk
end Go

/- A region that draws its order, each operation with a predicate on what it yields (kept while old blocks stay), and pairs: a variable's alloc, the operation that yields its value (a struct), its store. Over any program. -/
namespace Go.Inv
open Go.Lex (NoExit)
structure Pair where
  a : Nat
  v : Nat
  s : Nat
  p : Nat
  q : Nat
  T : TypeId
  z : Nat
  deriving DecidableEq
def special (ps : List Pair) (i : Nat) : Bool := ps.any fun p => p.a == i || p.s == i
theorem special_a {ps : List Pair} {p : Pair} (h : p ∈ ps) : special ps p.a = true := List.any_eq_true.2 ⟨p, h, by simp⟩
theorem special_s {ps : List Pair} {p : Pair} (h : p ∈ ps) : special ps p.s = true := List.any_eq_true.2 ⟨p, h, by simp⟩
theorem special_cases {ps : List Pair} {i : Nat} (h : special ps i = true) : ∃ p ∈ ps, p.a = i ∨ p.s = i := by
  obtain ⟨p, hp, h⟩ := List.any_eq_true.1 h
  exact ⟨p, hp, by simpa using h⟩

theorem fr_row {S : Nat → Prop} {w w' : World} {g : Nat} {cs : Array Value} (h : Fr S w w') (hS : S g ∨ w.heap.size ≤ g) : Fr S w (w'.setRow g cs) :=
  ⟨h.os, h.tape, h.output, by simp [World.setRow, h.size], fun k hk hs => by
    have : g ≠ k := fun e => by rcases hS with m | m; exact hs (e ▸ m); omega
    rw [show (w'.setRow g cs).heap[k]? = w'.heap[k]? from by simp [World.setRow, Array.getElem?_modify, this]]
    exact h.block k hk hs⟩
theorem row_heap (w : World) (g : Nat) (old new : Array Value) (t : TypeId) (h : w.heap[g]? = some (.cells old t (0, 0))) : (w.setRow g new).heap[g]? = some (.cells new t (0, 0)) := by
  simp [World.setRow, Array.getElem?_modify, h]
structure FJ (l : List Oper) (a0 : Act) (n : Nat) (W : World) (ps : List Pair) (D : Nat → Nat) (V : Nat → Value → World → Prop) (x : Nat → Value) (dn : Nat → Bool) (w : World) : Prop where
  fr : Fr no W w
  lt : ∀ i, dn i = true → i < n
  val : ∀ i, dn i = true → special ps i = false → V i (x (D i)) w
  var : ∀ p ∈ ps, dn p.a = true → ∃ (b : Nat) (cs : Array Value), x p.p = .pointer (some ⟨b, 0, none⟩) ∧ W.heap.size ≤ b ∧ w.heap[b]? = some (.cells cs p.T (0, 0)) ∧ cs.size = p.z ∧ (dn p.s = true → x p.q = .agg cs)
  ne : ∀ p ∈ ps, ∀ p' ∈ ps, p ≠ p' → dn p.a = true → dn p'.a = true → x p.p ≠ x p'.p
  st : ∀ p ∈ ps, dn p.s = true → dn p.v = true ∧ dn p.a = true
  un : ∀ i, i < n → dn i = false → special ps i = false → x (D i) = a0.tmps.getD (D i) undef
  cl : ∀ i o, l[i]? = some o → dn i = true → ∀ e ∈ o.after, Region.binds .any e = true → dn e.on = true

/-- the numbers fit: n operations, their slots D, the slots that change ds -/
def slotsB (n : Nat) (ds : List Nat) (ps : List Pair) (D : Nat → Nat) : Bool :=
  ((List.range n).all fun i => special ps i || (ds.contains (D i) && ((List.range n).all fun j => special ps j || i == j || D i != D j) && ps.all fun p => D i != p.p)) &&
  (ps.all fun p => ds.contains p.p && ds.contains p.q && p.q == D p.v && !special ps p.v && decide (p.v < n) && ps.all fun p' => (p.a != p'.a || decide (p = p')) && (p.s != p'.s || decide (p = p')) && p.a != p'.s && (p.p != p'.p || decide (p = p')))

theorem step_mono {P : Program} {o : Oper} {a : Act} {w : World} {K K' : Act → World → Prop} {Q : Exit → Act → World → Prop} (h : Step P o a w K NoExit) (hk : ∀ a' w', K a' w' → K' a' w') : Step P o a w K' Q :=
  ⟨by have := h.out; unfold Oper.wp at this ⊢; exact Lex.upon_q this hk⟩

theorem Step.load_in {P : Program} {o : Oper} {a : Act} {w : World} {K : Act → World → Prop} {Q : Exit → Act → World → Prop} (ty : TypeId) (x : Operand) (ho : o.op = .load ty x)
    (g q : Nat) (hx : a.eval x = .pointer (some ⟨g, q, none⟩)) (cs : List Value) (d : TypeDesc) (hS : At w g q cs) (hu : P.underlying ty = some d)
    (hd : (match d with | .struct _ | .array _ _ => true | _ => false) = true) (hi : (P.info? ty).map (·.size) = some cs.length)
    (h : K (a.put o.dst (.agg cs.toArray)) w) : Step P o a w K Q :=
  Step.value (v := .agg cs.toArray) (by
    unfold execOp
    simp only [ho, hx, Instr.loadAt, Instr.sureAddr, Sem.run_bind, Sem.run_pure, Result.andThen_ok, run_loadVar_in w g q ty cs d hS hu hd hi]) h

section
variable {P : Program} {o : Oper} {a : Act} {w : World} {K : Act → World → Prop} {Q : Exit → Act → World → Prop}
end

set_option maxHeartbeats 1000000 in
theorem freeR {P : Program} {id : Nat} {a0 : Act} {W : World} {Q : Exit → Act → World → Prop} (l : List Oper) (ds : List Nat) (ps : List Pair) (D : Nat → Nat) (V : Nat → Value → World → Prop) (Rel : World → World → Prop)
    (hm : P.follows .mixedOrders = true) (hB : (backB .any l.toArray && l.all (·.guard.isNone)) = true) (hfit : slotsB l.length ds ps D = true) (hD : (l.zipIdx.all fun x => special ps x.2 || x.1.dst == some (D x.2)) = true) (sz : Nat) (hsz0 : a0.tmps.size = sz) (hsz1 : (ds.all fun k => decide (k < sz)) = true)
    (hst : ∀ i v w w' (S : Nat → Prop), Fr no W w → V i v w → Fr S w w' → (∀ k, S k → W.heap.size ≤ k ∧ ∃ p ∈ ps, ∃ cs : Array Value, w.heap[k]? = some (.cells cs p.T (0, 0))) → V i v w')
    (hrel : ∀ w w', Fr no W w → Rel w w' → Fr no W w' ∧ (∀ i v, V i v w → V i v w') ∧ ∀ p ∈ ps, ∀ (b : Nat) (cs : Array Value), w.heap[b]? = some (.cells cs p.T (0, 0)) → w'.heap[b]? = some (.cells cs p.T (0, 0)))
    (hpa : ∀ p ∈ ps, ∃ o, l[p.a]? = some o ∧ o.op = .alloc p.T ∧ o.dst = some p.p) (hps : ∀ p ∈ ps, ∃ o, l[p.s]? = some o ∧ o.op = .store p.T (.tmp p.p) (.tmp p.q) ∧ o.dst = none ∧ (∃ e ∈ o.after, Region.binds .any e = true ∧ e.on = p.a) ∧ (∃ e ∈ o.after, Region.binds .any e = true ∧ e.on = p.v))
    (hzero : ∀ p ∈ ps, ∃ zv : Value, (∀ w, (zeroValue p.T).run P w = .ok zv w) ∧ zv.cells.size = p.z) (hinfo : ∀ p ∈ ps, (P.info? p.T).map (·.size) = some p.z)
    (hval : ∀ p ∈ ps, ∀ u w, V p.v u w → ∃ cs : Array Value, u = .agg cs ∧ cs.size = p.z ∧ cs.all (·.oneCell') = true)
    (hstep : ∀ i o, l[i]? = some o → special ps i = false → ∀ (x : Nat → Value) (dn : Nat → Bool) w, Fr no W w → (∀ e ∈ o.after, Region.binds .any e = true → dn e.on = true) → (∀ j, dn j = true → special ps j = false → V j (x (D j)) w) → dn i = false → (∀ j, j < l.length → dn j = false → special ps j = false → x (D j) = a0.tmps.getD (D j) undef) → (∀ j o, l[j]? = some o → dn j = true → ∀ e ∈ o.after, Region.binds .any e = true → dn e.on = true) →
      Step P o (over a0 ds x) w (fun a' w' => ∃ v, a' = (over a0 ds x).put (some (D i)) v ∧ V i v w' ∧ (Fr no w w' ∨ Rel w w')) NoExit)
    (hend : ∀ (x : Nat → Value) w, Fr no W w → (∀ i, i < l.length → special ps i = false → V i (x (D i)) w) → (∀ p ∈ ps, ∃ (b : Nat) (cs : Array Value), x p.p = .pointer (some ⟨b, 0, none⟩) ∧ W.heap.size ≤ b ∧ w.heap[b]? = some (.cells cs p.T (0, 0)) ∧ x p.q = .agg cs) →
      (∀ p ∈ ps, ∀ p' ∈ ps, p ≠ p' → x p.p ≠ x p'.p) → Q .normal (over a0 ds x) w) : (Code.region id l.toArray true).wp P Q a0 W := by
  simp only [slotsB, Bool.and_eq_true, List.all_eq_true, Bool.or_eq_true, bne_iff_ne, ne_eq, beq_iff_eq, List.mem_range, List.contains_iff_mem, Bool.not_eq_true', decide_eq_true_eq] at hfit
  obtain ⟨f1, f2⟩ := hfit
  have hsz : ∀ k ∈ ds, k < a0.tmps.size := fun k hk => by
    have := List.all_eq_true.1 hsz1 k hk
    rw [hsz0]
    simpa using this
  have g1 : ∀ i, i < l.length → special ps i = false → D i ∈ ds ∧ (∀ j, j < l.length → special ps j = false → j ≠ i → D i ≠ D j) ∧ ∀ p ∈ ps, D i ≠ p.p := fun i hi hs => by
    rcases f1 i hi with h | ⟨⟨h1, h2⟩, h3⟩
    · rw [hs] at h; cases h
    · refine ⟨h1, fun j hj hsj hne => ?_, h3⟩
      rcases h2 j hj with (h | h) | h
      · rw [hsj] at h; cases h
      · exact (hne h.symm).elim
      · exact h
  refine region_over l ds hm hB (FJ l a0 l.length W ps D V) ?_ ?_ ?_
  · exact ⟨(Fr.refl no W).drew, (fun i h => by cases h), (fun i h => by cases h), (fun p _ h => by cases h), (fun p _ p' _ _ h => by cases h), (fun p _ h => by cases h), (fun i _ _ _ => rfl), (fun i o _ h => by cases h)⟩
  · intro x dn w i o hJ ho hd hdep
    have hil : i < l.length := (List.getElem?_eq_some_iff.1 ho).1
    have hdn : ∀ k, k ≠ i → (k == i || dn k) = true → dn k = true := fun k hk h => by
      simpa [hk] using h
    have hlt : ∀ k, (k == i || dn k) = true → k < l.length := fun k h => by
      by_cases e : k = i
      · omega
      · exact hJ.lt k (hdn k e h)
    have hup : ∀ k, dn k = true → (k == i || dn k) = true := fun k h => by simp [h]
    have hun : ∀ k, (k == i || dn k) = false → k ≠ i ∧ dn k = false := fun k h => by simpa using h
    have hcl : ∀ k o', l[k]? = some o' → (k == i || dn k) = true → ∀ e ∈ o'.after, Region.binds .any e = true → (e.on == i || dn e.on) = true := fun k o' hk h e he hb => by
      by_cases hki : k = i
      · subst hki
        rw [ho] at hk
        cases hk
        exact hup _ (hdep e he hb)
      · exact hup _ (hJ.cl k o' hk (hdn k hki h) e he hb)
    by_cases hs : special ps i = true
    · obtain ⟨p, hp, hpi⟩ := special_cases hs
      obtain ⟨⟨⟨⟨⟨k1, k2⟩, k3⟩, k4⟩, k5⟩, k6⟩ := f2 p hp
      have k7 : ∀ p' ∈ ps, p ≠ p' → p.a ≠ p'.a ∧ p.s ≠ p'.s ∧ p.p ≠ p'.p := fun p' hp' hne => by
        obtain ⟨⟨⟨h1, h2⟩, h3⟩, h4⟩ := k6 p' hp'
        exact ⟨h1.resolve_right hne, h2.resolve_right hne, h4.resolve_right hne⟩
      have k8 : ∀ p' ∈ ps, p.a ≠ p'.s := fun p' hp' => (k6 p' hp').1.2
      have k9 : ∀ p' ∈ ps, p'.a ≠ p.s := fun p' hp' => by
        obtain ⟨_, q6⟩ := f2 p' hp'
        exact (q6 p hp).1.2
      rcases hpi with hpi | hpi
      · -- the alloc
        obtain ⟨o1, h1, h2, h3⟩ := hpa p hp
        rw [hpi, ho] at h1
        cases h1
        obtain ⟨zv, hz1, hz2⟩ := hzero p hp
        refine Step.alloc p.T zv h2 (hz1 w) ?_
        rw [h3]
        refine ⟨_, over_put k1, ?_⟩
        have r := (Fr.refl no w).alloc (.cells zv.cells p.T)
        have hns : dn p.s = false := by
          cases h : dn p.s with
          | false => rfl
          | true => have := (hJ.st p hp h).2; rw [hpi, hd] at this; cases this
        refine ⟨hJ.fr.trans r, hlt, fun j hj hsj => ?_, fun p' hp' hj => ?_, fun p1 hp1 p2 hp2 hne ha1 ha2 => ?_, fun p' hp' hj => ?_, fun j hj hdj hsj => ?_, hcl⟩
        rotate_right
        · show (if D j = p.p then _ else x (D j)) = _
          rw [if_neg ((g1 j hj hsj).2.2 p hp)]
          exact hJ.un j hj (hun j hdj).2 hsj
        · have hji : j ≠ i := fun e => by rw [e, hs] at hsj; cases hsj
          have hV := hJ.val j (hdn j hji hj) hsj
          show V j (if D j = p.p then _ else x (D j)) _
          rw [if_neg ((g1 j (hlt j hj) hsj).2.2 p hp)]
          exact hst j _ w _ no hJ.fr hV r (fun k hk => hk.elim)
        · by_cases hpp : p = p'
          · subst hpp
            refine ⟨w.heap.size, zv.cells, by simp, hJ.fr.size, heap_new w _, hz2, fun h => ?_⟩
            have := hdn p.s (fun e => k8 p hp (hpi.trans e.symm)) h
            rw [hns] at this; cases this
          · have hka := (k7 p' hp' hpp)
            obtain ⟨b, cs, e1, e2, e3, e4, e5⟩ := hJ.var p' hp' (hdn p'.a (fun e => hka.1 (hpi.trans e.symm)) hj)
            refine ⟨b, cs, ?_, e2, r.heap e3 (by simp), e4, fun h => ?_⟩
            · show (if p'.p = p.p then _ else x p'.p) = _
              rw [if_neg (fun e => hka.2.2 e.symm)]; exact e1
            · have h' := hdn p'.s (fun e => k8 p' hp' (hpi.trans e.symm)) h
              show (if p'.q = p.p then _ else x p'.q) = _
              obtain ⟨⟨⟨⟨⟨_, _⟩, q3⟩, q4⟩, q5⟩, _⟩ := f2 p' hp'
              rw [if_neg (fun e => (g1 p'.v q5 q4).2.2 p hp (by rw [← q3]; exact e))]
              exact e5 h'
        · have hold : ∀ p' ∈ ps, p ≠ p' → (p'.a == i || dn p'.a) = true → (if p.p = p.p then Value.pointer (some ⟨w.heap.size, 0, none⟩) else x p.p) ≠ (if p'.p = p.p then Value.pointer (some ⟨w.heap.size, 0, none⟩) else x p'.p) := fun p' hp' hpp hj => by
            have hka := (k7 p' hp' hpp)
            obtain ⟨b, cs, e1, e2, e3, e4, e5⟩ := hJ.var p' hp' (hdn p'.a (fun e => hka.1 (hpi.trans e.symm)) hj)
            rw [if_pos rfl, if_neg (fun e => hka.2.2 e.symm), e1]
            have h0 := (Array.getElem?_eq_some_iff.1 e3).1
            intro e
            have e' : w.heap.size = b := by simpa using e
            omega
          show (if p1.p = p.p then _ else x p1.p) ≠ (if p2.p = p.p then _ else x p2.p)
          by_cases q1 : p = p1
          · subst q1; exact hold p2 hp2 hne ha2
          · by_cases q2 : p = p2
            · subst q2; exact (hold p1 hp1 q1 ha1).symm
            · rw [if_neg (fun e => (k7 p1 hp1 q1).2.2 e.symm), if_neg (fun e => (k7 p2 hp2 q2).2.2 e.symm)]
              exact hJ.ne p1 hp1 p2 hp2 hne (hdn p1.a (fun e => (k7 p1 hp1 q1).1 (hpi.trans e.symm)) ha1) (hdn p2.a (fun e => (k7 p2 hp2 q2).1 (hpi.trans e.symm)) ha2)
        · have h' := hdn p'.s (fun e => k8 p' hp' (hpi.trans e.symm)) hj
          obtain ⟨q1, q2⟩ := hJ.st p' hp' h'
          exact ⟨hup _ q1, hup _ q2⟩
      · -- the store
        obtain ⟨o1, h1, h2, h3, ⟨ea, ha1, ha2, ha3⟩, ev, hv1, hv2, hv3⟩ := hps p hp
        rw [hpi, ho] at h1
        cases h1
        have da : dn p.a = true := by have := hdep ea ha1 ha2; rwa [ha3] at this
        have dv : dn p.v = true := by have := hdep ev hv1 hv2; rwa [hv3] at this
        obtain ⟨b, cs, e1, e2, e3, e4, -⟩ := hJ.var p hp da
        obtain ⟨new, n1, n2, n3⟩ := hval p hp _ _ (hJ.val p.v dv k4)
        rw [← k3] at n1
        refine Step.store_row p.T (.tmp p.p) (.tmp p.q) h2 b new ((over_slot k1 (hsz _ k1)).trans e1) ((over_slot k2 (hsz _ k2)).trans n1) _ _ e3 (by rw [hinfo p hp, n2]) (by rw [e4, n2]) n3 ?_
        rw [h3]
        refine ⟨x, rfl, ?_⟩
        have r : Fr (only [b]) w (w.setRow b new) := fr_row (Fr.refl _ w) (.inl (by simp))
        refine ⟨fr_row hJ.fr (.inr e2), hlt, fun j hj hsj => ?_, fun p' hp' hj => ?_, fun p1 hp1 p2 hp2 hne h1 h2 => ?_, fun p' hp' hj => ?_, fun j hj hdj hsj => hJ.un j hj (hun j hdj).2 hsj, hcl⟩
        · have hji : j ≠ i := fun e => by rw [e, hs] at hsj; cases hsj
          refine hst j _ w _ (only [b]) hJ.fr (hJ.val j (hdn j hji hj) hsj) r (fun k hk => ?_)
          simp only [only_iff, List.mem_singleton] at hk
          subst hk
          exact ⟨e2, p, hp, cs, e3⟩
        · by_cases hpp : p = p'
          · subst hpp
            exact ⟨b, new, e1, e2, row_heap w b _ new _ e3, n2, fun _ => n1⟩
          · have hka := (k7 p' hp' hpp)
            have hda := hdn p'.a (fun e => k9 p' hp' (e.trans hpi.symm)) hj
            obtain ⟨b', cs', c1, c2, c3, c4, c5⟩ := hJ.var p' hp' hda
            refine ⟨b', cs', c1, c2, r.heap c3 (fun he => ?_), c4, fun h => c5 (hdn p'.s (fun e => hka.2.1 (hpi.trans e.symm)) h)⟩
            simp at he
            subst he
            exact hJ.ne p hp p' hp' hpp da hda (e1.trans c1.symm)
        · exact hJ.ne p1 hp1 p2 hp2 hne (hdn p1.a (fun e => k9 p1 hp1 (e.trans hpi.symm)) h1) (hdn p2.a (fun e => k9 p2 hp2 (e.trans hpi.symm)) h2)
        · by_cases hpp : p = p'
          · subst hpp
            exact ⟨hup _ dv, hup _ da⟩
          · obtain ⟨q1, q2⟩ := hJ.st p' hp' (hdn p'.s (fun e => (k7 p' hp' hpp).2.1 (hpi.trans e.symm)) hj)
            exact ⟨hup _ q1, hup _ q2⟩
    · have hs' : special ps i = false := by simpa using hs
      have hdst : o.dst = some (D i) := by
        have := List.all_eq_true.1 hD (o, i) (by rw [List.mem_zipIdx_iff_getElem?]; exact ho)
        simpa [hs'] using this
      obtain ⟨m1, m2, m3⟩ := g1 i hil hs'
      refine step_mono (hstep i o ho hs' x dn w hJ.fr hdep hJ.val hd hJ.un hJ.cl) ?_
      rintro a' w' ⟨v, rfl, hV, hr⟩
      refine ⟨_, over_put m1, ?_⟩
      obtain ⟨r1, r2, r3⟩ : Fr no W w' ∧ (∀ i v, V i v w → V i v w') ∧ ∀ p ∈ ps, ∀ (b : Nat) (cs : Array Value), w.heap[b]? = some (.cells cs p.T (0, 0)) → w'.heap[b]? = some (.cells cs p.T (0, 0)) := by
        rcases hr with r | r
        · exact ⟨hJ.fr.trans r, fun i v h => hst i v w w' no hJ.fr h r (fun k hk => hk.elim), fun p _ b cs h => r.heap h (by simp)⟩
        · exact hrel w w' hJ.fr r
      have hna : ∀ p ∈ ps, p.a ≠ i ∧ p.s ≠ i := fun p hp => ⟨fun e => hs (e ▸ special_a hp), fun e => hs (e ▸ special_s hp)⟩
      refine ⟨r1, hlt, fun j hj hsj => ?_, fun p hp hj => ?_, fun p1 hp1 p2 hp2 hne h1 h2 => ?_, fun p hp hj => ?_, fun j hj hdj hsj => ?_, hcl⟩
      rotate_right
      · show (if D j = D i then v else x (D j)) = _
        rw [if_neg (fun e => m2 j hj hsj (hun j hdj).1 e.symm)]
        exact hJ.un j hj (hun j hdj).2 hsj
      · show V j (if D j = D i then v else x (D j)) _
        by_cases hji : j = i
        · subst hji
          rw [if_pos rfl]
          exact hV
        · rw [if_neg (fun e => m2 j (hlt j hj) hsj hji e.symm)]
          exact r2 j _ (hJ.val j (hdn j hji hj) hsj)
      · obtain ⟨b, cs, e1, e2, e3, e4, e5⟩ := hJ.var p hp (hdn _ (hna p hp).1 hj)
        refine ⟨b, cs, ?_, e2, r3 p hp b cs e3, e4, fun h => ?_⟩
        · show (if p.p = D i then v else x p.p) = _
          rw [if_neg (fun e => m3 p hp e.symm)]; exact e1
        · have h' := hdn _ (hna p hp).2 h
          obtain ⟨⟨⟨⟨⟨_, _⟩, q3⟩, q4⟩, q5⟩, _⟩ := f2 p hp
          have hvi : p.v ≠ i := fun e => by have := (hJ.st p hp h').1; rw [e, hd] at this; cases this
          show (if p.q = D i then v else x p.q) = _
          rw [if_neg (fun e => m2 p.v q5 q4 hvi (by rw [← q3]; exact e.symm))]
          exact e5 h'
      · show (if p1.p = D i then v else x p1.p) ≠ (if p2.p = D i then v else x p2.p)
        rw [if_neg (fun e => m3 p1 hp1 e.symm), if_neg (fun e => m3 p2 hp2 e.symm)]
        exact hJ.ne p1 hp1 p2 hp2 hne (hdn _ (hna p1 hp1).1 h1) (hdn _ (hna p2 hp2).1 h2)
      · obtain ⟨q1, q2⟩ := hJ.st p hp (hdn _ (hna p hp).2 hj)
        exact ⟨hup _ q1, hup _ q2⟩
  · intro x dn w hJ hall
    refine hend x w hJ.fr (fun i hi hs => hJ.val i (hall i hi) hs) (fun p hp => ?_) (fun p1 hp1 p2 hp2 hne => ?_)
    · obtain ⟨o1, h1, -⟩ := hpa p hp
      obtain ⟨o2, h2, -⟩ := hps p hp
      obtain ⟨b, cs, e1, e2, e3, e4, e5⟩ := hJ.var p hp (hall _ (List.getElem?_eq_some_iff.1 h1).1)
      exact ⟨b, cs, e1, e2, e3, e5 (hall _ (List.getElem?_eq_some_iff.1 h2).1)⟩
    · obtain ⟨o1, h1, -⟩ := hpa p1 hp1
      obtain ⟨o2, h2, -⟩ := hpa p2 hp2
      exact hJ.ne p1 hp1 p2 hp2 hne (hall _ (List.getElem?_eq_some_iff.1 h1).1) (hall _ (List.getElem?_eq_some_iff.1 h2).1)
set_option maxHeartbeats 1000000 in
theorem free {P : Program} {id : Nat} {a0 : Act} {W : World} {Q : Exit → Act → World → Prop} (l : List Oper) (ds : List Nat) (ps : List Pair) (D : Nat → Nat) (V : Nat → Value → World → Prop)
    (hm : P.follows .mixedOrders = true) (hB : (backB .any l.toArray && l.all (·.guard.isNone)) = true) (hfit : slotsB l.length ds ps D = true) (hD : (l.zipIdx.all fun x => special ps x.2 || x.1.dst == some (D x.2)) = true) (sz : Nat) (hsz0 : a0.tmps.size = sz) (hsz1 : (ds.all fun k => decide (k < sz)) = true)
    (hst : ∀ i v w w' (S : Nat → Prop), Fr no W w → V i v w → Fr S w w' → (∀ k, S k → W.heap.size ≤ k ∧ ∃ p ∈ ps, ∃ cs : Array Value, w.heap[k]? = some (.cells cs p.T (0, 0))) → V i v w')
    (hpa : ∀ p ∈ ps, ∃ o, l[p.a]? = some o ∧ o.op = .alloc p.T ∧ o.dst = some p.p) (hps : ∀ p ∈ ps, ∃ o, l[p.s]? = some o ∧ o.op = .store p.T (.tmp p.p) (.tmp p.q) ∧ o.dst = none ∧ (∃ e ∈ o.after, Region.binds .any e = true ∧ e.on = p.a) ∧ (∃ e ∈ o.after, Region.binds .any e = true ∧ e.on = p.v))
    (hzero : ∀ p ∈ ps, ∃ zv : Value, (∀ w, (zeroValue p.T).run P w = .ok zv w) ∧ zv.cells.size = p.z) (hinfo : ∀ p ∈ ps, (P.info? p.T).map (·.size) = some p.z)
    (hval : ∀ p ∈ ps, ∀ u w, V p.v u w → ∃ cs : Array Value, u = .agg cs ∧ cs.size = p.z ∧ cs.all (·.oneCell') = true)
    (hstep : ∀ i o, l[i]? = some o → special ps i = false → ∀ (x : Nat → Value) (dn : Nat → Bool) w, Fr no W w → (∀ e ∈ o.after, Region.binds .any e = true → dn e.on = true) → (∀ j, dn j = true → special ps j = false → V j (x (D j)) w) → dn i = false → (∀ j, j < l.length → dn j = false → special ps j = false → x (D j) = a0.tmps.getD (D j) undef) → (∀ j o, l[j]? = some o → dn j = true → ∀ e ∈ o.after, Region.binds .any e = true → dn e.on = true) →
      Step P o (over a0 ds x) w (fun a' w' => ∃ v, a' = (over a0 ds x).put (some (D i)) v ∧ V i v w' ∧ Fr no w w') NoExit)
    (hend : ∀ (x : Nat → Value) w, Fr no W w → (∀ i, i < l.length → special ps i = false → V i (x (D i)) w) → (∀ p ∈ ps, ∃ (b : Nat) (cs : Array Value), x p.p = .pointer (some ⟨b, 0, none⟩) ∧ W.heap.size ≤ b ∧ w.heap[b]? = some (.cells cs p.T (0, 0)) ∧ x p.q = .agg cs) →
      (∀ p ∈ ps, ∀ p' ∈ ps, p ≠ p' → x p.p ≠ x p'.p) → Q .normal (over a0 ds x) w) : (Code.region id l.toArray true).wp P Q a0 W :=
  freeR l ds ps D V (fun _ _ => False) hm hB hfit hD sz hsz0 hsz1 hst (fun _ _ _ h => h.elim) hpa hps hzero hinfo hval (fun i o ho hs x dn w hfr hdep hV h1 h2 h3 => step_mono (hstep i o ho hs x dn w hfr hdep hV h1 h2 h3) (fun a' w' ⟨v, h1, h2, h3⟩ => ⟨v, h1, h2, .inl h3⟩)) hend
end Go.Inv

/- Functions and modules as data; module.within, module.function. -/
namespace Go.Proofs.YtihnkijeefkefaaGreat
open Go.RowKit

attribute [local go_sem] Program.isFuncB Program.isSliceB

variable {w w' w'' w0 : World}

/-! ### functions and modules -/
structure Fx where
  p : Int
  r : Int
  a : Int
  c : List Ix
  deriving DecidableEq
structure Mx where
  d : List Nat
  f : List Fx
  deriving DecidableEq
def Fx.cells (f : Fx) (u : Value) : List Value := [.int .i64 f.p, .int .i64 f.r, .int .i64 f.a, u]
def Fx.Small (f : Fx) : Prop := f.c.length ≤ 1000 ∧ ∀ i ∈ f.c, i.l.length ≤ 1000
/-- a function in four cells from a place on -/
structure FnIn (w : World) (b o : Nat) (f : Fx) (ca : Option Addr) (cc : Nat) : Prop where
  cell : At w b o (f.cells (.slice ca f.c.length cc))
  code : CodeIn w ca f.c
def FnsIn (w : World) (sa : Option Addr) (fs : List Fx) : Prop := ∀ k (h : k < fs.length), ∃ b o ca cc, sa = some ⟨b, o, none⟩ ∧ FnIn w b (o + k * 4) fs[k] ca cc
theorem FnIn.fr {b o : Nat} {f : Fx} {ca : Option Addr} {cc : Nat} (h : FnIn w b o f ca cc) (r : Fr no w w') : FnIn w' b o f ca cc := ⟨h.cell.fr r, h.code.fr r⟩
theorem FnsIn.fr {sa : Option Addr} {fs : List Fx} (h : FnsIn w sa fs) (r : Fr no w w') : FnsIn w' sa fs := fun k hk => by
  obtain ⟨b, o, ca, cc, h1, h2⟩ := h k hk
  exact ⟨b, o, ca, cc, h1, h2.fr r⟩
theorem FnIn.four {b o : Nat} {f : Fx} {ca : Option Addr} {cc : Nat} (h : FnIn w b o f ca cc) : w.cell? ⟨b, o, none⟩ = some (.int .i64 f.p) ∧ w.cell? ⟨b, o + 1, none⟩ = some (.int .i64 f.r) ∧ w.cell? ⟨b, o + 2, none⟩ = some (.int .i64 f.a) ∧ w.cell? ⟨b, o + 3, none⟩ = some (.slice ca f.c.length cc) :=
  ⟨h.cell 0 _ rfl, h.cell 1 _ rfl, h.cell 2 _ rfl, h.cell 3 _ rfl⟩
theorem cells4 {b : Nat} {a0 a1 a2 a3 : Value} {t : TypeId} (h : w.heap[b]? = some (.cells #[a0, a1, a2, a3] t (0, 0))) :
    w.cell? ⟨b, 0, none⟩ = some a0 ∧ w.cell? ⟨b, 1, none⟩ = some a1 ∧ w.cell? ⟨b, 2, none⟩ = some a2 ∧ w.cell? ⟨b, 3, none⟩ = some a3 :=
  ⟨cell_of_heap h rfl, cell_of_heap h rfl, cell_of_heap h rfl, cell_of_heap h rfl⟩
theorem cells2 {b : Nat} {a0 a1 : Value} {t : TypeId} (h : w.heap[b]? = some (.cells #[a0, a1] t (0, 0))) : w.cell? ⟨b, 0, none⟩ = some a0 ∧ w.cell? ⟨b, 1, none⟩ = some a1 :=
  ⟨cell_of_heap h rfl, cell_of_heap h rfl⟩

/-! ### which may be -/
def numBad (p r a : Int) : Bool := decide (p < 0 ∨ 8 < p ∨ r < p ∨ 64 < r ∨ a < 0 ∨ 4096 < a)
def ckIn (i : Ix) (r a : Int) : Int := checkOf i.o i.A i.B i.C i.N i.l r a
/-- the first answer that is not 0 -/
def firstBad {α : Type} (p : α → Int) (l : List α) : Int := match l.find? (fun i => p i != 0) with | some i => p i | none => 0
def opsCk (is : List Ix) (r a : Int) : Int := firstBad (fun i => ckIn i r a) is
def fnCk (f : Fx) : Int := if numBad f.p f.r f.a then 2 else if joinCk f.c ≠ 0 then joinCk f.c else opsCk f.c f.r f.a
def fnsCk (fs : List Fx) : Int := firstBad fnCk fs
def modCk (m : Mx) : Int := if 8192 < m.d.length then 3 else if m.f.length < 1 ∨ 64 < m.f.length then 2 else fnsCk m.f

theorem find_bad {α : Type} (p : α → Int) (l : List α) (k : Nat) (hk : k < l.length) (hpre : ∀ j (_ : j < k) (h : j < l.length), p l[j] = 0) (hb : p l[k] ≠ 0) : firstBad p l = p l[k] := by
  unfold firstBad
  have : l.find? (fun i => p i != 0) = some l[k] := by
    rw [List.find?_eq_some_iff_getElem]
    refine ⟨by simpa using hb, k, hk, rfl, fun j hj => ?_⟩
    simpa using hpre j hj (by omega)
  rw [this]
theorem find_good {α : Type} (p : α → Int) (l : List α) (hall : ∀ j (h : j < l.length), p l[j] = 0) : firstBad p l = 0 := by
  unfold firstBad
  have : l.find? (fun i => p i != 0) = none := by
    rw [List.find?_eq_none]
    intro i hi
    obtain ⟨j, hj, rfl⟩ := List.getElem_of_mem hi
    simpa using hall j hj
  rw [this]

theorem within_ok (w : World) (n h : Int) : Calls Tryz.prog 167 #[.int .i64 n, .int .i64 h] w fun e w' => e = .returned (.bool (decide (0 ≤ n ∧ n ≤ h))) ∧ w = w' := by
  by_cases h0 : 0 ≤ n
  · by_cases h1 : n ≤ h
    · rw [decide_eq_true ⟨h0, h1⟩]
      go_enter Tryz.func167, Tryz.ntmps167
      go_wp2_with fail
      go_ret
      exact ⟨rfl, rfl⟩
    · rw [decide_eq_false (fun q => h1 q.2)]
      go_enter Tryz.func167, Tryz.ntmps167
      go_wp2_with fail
      go_ret
      exact ⟨rfl, rfl⟩
  · rw [decide_eq_false (fun q => h0 q.1)]
    go_enter Tryz.func167, Tryz.ntmps167
    go_wp2_with fail
    go_ret
    exact ⟨rfl, rfl⟩

theorem fnObj (w : World) (p r a : Int) (u : Value) : (w.alloc (.cells #[.int .i64 p, .int .i64 r, .int .i64 a, u] 41)).heap[w.heap.size]? = some (.cells #[.int .i64 p, .int .i64 r, .int .i64 a, u] 41 (0, 0)) := heap_new _ _

set_option maxHeartbeats 4000000 in
theorem fn_ok (w : World) (f : Fx) (ca : Option Addr) (cc : Nat) (hc : CodeIn w ca f.c) (hs : f.Small) :
    Calls Tryz.prog 119 #[.agg #[.int .i64 f.p, .int .i64 f.r, .int .i64 f.a, .slice ca f.c.length cc]] w fun e w' => e = .returned (.int .i64 (fnCk f)) ∧ Fr no w w' := by
  obtain ⟨p, r, a, is⟩ := f
  obtain ⟨hs1, hs2⟩ := hs
  dsimp only at hc hs1 hs2 ⊢
  have HC := Lib.hid hc
  have HI := Lib.hid (fnObj w p r a (.slice ca is.length cc))
  have r0 := (Fr.refl no w).alloc (.cells #[.int .i64 p, .int .i64 r, .int .i64 a, .slice ca is.length cc] 41)
  have R0 := Lib.hid r0
  have HW := Lib.hid within_ok
  have HJ := Lib.hid (join_ok (w.alloc (.cells #[.int .i64 p, .int .i64 r, .int .i64 a, .slice ca is.length cc] 41)) ca cc is (hc.fr r0) hs1 hs2)
  have HAR := Lib.hid hs2
  have HCK : Hid (fnCk ⟨p, r, a, is⟩ = if numBad p r a then 2 else if joinCk is ≠ 0 then joinCk is else opsCk is r a) := Lib.hid rfl
  have HNB : Hid (numBad p r a = decide (p < 0 ∨ 8 < p ∨ r < p ∨ 64 < r ∨ a < 0 ∨ 4096 < a)) := Lib.hid rfl
  generalize numBad p r a = nb at *
  generalize fnCk ⟨p, r, a, is⟩ = ck at *
  clear r0 hc hs2
  go_enter Tryz.func119, Tryz.ntmps119
  obtain ⟨c0, c1, c2, c3⟩ := cells4 HI.out
  go_wp2_with fail
  refine (HW.out _ _ _).mono ?_
  rintro e w1 ⟨rfl, rfl⟩
  by_cases h1 : 0 ≤ p ∧ p ≤ 8
  case neg =>
    rw [decide_eq_false h1]
    have HB : Hid (ck = 2) := Lib.hid (by rw [HCK.out, HNB.out, decide_eq_true (by omega)]; rfl)
    clear h1
    go_wp2_with fail
    go_ret
    exact ⟨by rw [HB.out]; rfl, R0.out⟩
  rw [decide_eq_true h1]
  obtain ⟨h1, h1'⟩ := h1
  by_cases h2 : r < p
  · have HB : Hid (ck = 2) := Lib.hid (by rw [HCK.out, HNB.out, decide_eq_true (by omega)]; rfl)
    go_wp2_with fail
    go_ret
    exact ⟨by rw [HB.out]; rfl, R0.out⟩
  replace h2 : p ≤ r := by omega
  have h2d : decide (r < p) = false := decide_eq_false (by omega)
  go_wp2_with fail
  refine (HW.out _ _ _).mono ?_
  rintro e w1 ⟨rfl, rfl⟩
  clear h2d
  by_cases h3 : 0 ≤ r ∧ r ≤ 64
  case neg =>
    rw [decide_eq_false h3]
    have HB : Hid (ck = 2) := Lib.hid (by rw [HCK.out, HNB.out, decide_eq_true (by omega)]; rfl)
    clear h3
    go_wp2_with fail
    go_ret
    exact ⟨by rw [HB.out]; rfl, R0.out⟩
  rw [decide_eq_true h3]
  go_wp2_with fail
  refine (HW.out _ _ _).mono ?_
  rintro e w1 ⟨rfl, rfl⟩
  by_cases h4 : 0 ≤ a ∧ a ≤ 4096
  case neg =>
    rw [decide_eq_false h4]
    have HB : Hid (ck = 2) := Lib.hid (by rw [HCK.out, HNB.out, decide_eq_true (by omega)]; rfl)
    clear h4
    go_wp2_with fail
    go_ret
    exact ⟨by rw [HB.out]; rfl, R0.out⟩
  rw [decide_eq_true h4]
  have HN : Hid (ck = if joinCk is ≠ 0 then joinCk is else opsCk is r a) := Lib.hid (by
    rw [HCK.out, HNB.out, decide_eq_false (by omega)]; rfl)
  clear h1 h1' h2 h3 h4 HCK HNB HW
  generalize joinCk is = jc at *
  go_wp2_with fail
  refine HJ.out.mono ?_
  rintro e w2 ⟨v, rfl, hv, r2⟩
  obtain ⟨va, vc, rfl⟩ := owns_shape hv
  have R2 := Lib.hid (R0.out.trans r2)
  have HI2 := Lib.hid (r2.heap HI.out (by simp))
  have HC2 := Lib.hid (HC.out.fr R2.out)
  clear r2 hv c0 c1 c2 c3 HI HJ HC R0
  obtain ⟨c0, c1, c2, c3⟩ := cells4 HI2.out
  by_cases hj : jc = 0
  case neg =>
    have e1 : (jc != 0) = true := by simpa using hj
    have HB : Hid (ck = jc) := Lib.hid (by rw [HN.out, if_pos hj])
    clear hj
    go_wp2_with fail
    go_ret
    exact ⟨by rw [HB.out] <;> rfl, R2.out⟩
  have e1 : (jc != 0) = false := by simpa using hj
  have HN2 : Hid (ck = opsCk is r a) := Lib.hid (by rw [HN.out, if_neg (by simpa using hj)])
  clear hj HN
  go_wp2_with fail
  go_loopw [43] (fun x wr => ∃ k : Nat, k ≤ is.length ∧ x = .int .i64 k ∧ Hid (∀ j (_ : j < k) (h : j < is.length), ckIn is[j] r a = 0) ∧ Hid (Fr no w2 wr)) (fun x _ => (is.length - intOf x).toNat)
  case atStart => exact ⟨0, by omega, rfl, Lib.hid (fun j h _ => by omega), Lib.hid (Fr.refl _ _)⟩
  case round =>
    obtain ⟨k, hk, rfl, hpre, hfr⟩ := hrel
    by_cases hks : k < is.length
    · have hks' : (k : Int) < is.length := by omega
      obtain ⟨b, of, u, rfl, hi⟩ := HC2.out.fr hfr.out k hks
      obtain ⟨ua, uc, rfl⟩ := hi.args.shape
      obtain ⟨d0, d1, d2, d3, d4, d5⟩ := hi.six
      have hal := HAR.out is[k] (List.getElem_mem _)
      have HPP := Lib.hid (fun w1 (h : Fr no wr w1) => check_ok w1 is[k].o is[k].A is[k].B is[k].C is[k].N r a _ is[k].l (hi.args.fr h (by simp)) (by omega))
      have HBAD : Hid (ckIn is[k] r a ≠ 0 → opsCk is r a = ckIn is[k] r a) := Lib.hid (fun h => find_bad (fun i => ckIn i r a) is k hks hpre.out h)
      have HPRE : Hid (ckIn is[k] r a = 0 → ∀ j (_ : j < k + 1) (h : j < is.length), ckIn is[j] r a = 0) := Lib.hid (fun h0 j hj h => by
        by_cases he : j = k
        · subst he; exact h0
        · exact hpre.out j (by omega) h)
      have HEQ : Hid (checkOf is[k].o is[k].A is[k].B is[k].C is[k].N is[k].l r a = ckIn is[k] r a) := Lib.hid rfl
      rw [HEQ.out] at HPP
      clear HEQ
      generalize ckIn is[k] r a = qk at *
      generalize is[k] = ix at *
      clear hi
      obtain ⟨io, iA, iB, iC, iN, il⟩ := ix
      dsimp only at d0 d1 d2 d3 d4 d5 hal HPP
      unfold insV at HPP
      have HI3 := Lib.hid (hfr.out.heap HI2.out (by simp))
      have r5 := (Fr.refl no wr).alloc (.cells #[.int .i64 io, .int .i64 iA, .int .i64 iB, .int .i64 iC, .int .i64 iN, .slice ua il.length uc] 112)
      have R5 := Lib.hid (hfr.out.trans r5)
      have HI5 := Lib.hid (r5.heap HI3.out (by simp))
      have HP5 := Lib.hid (HPP.out _ r5)
      clear r5 HPP c0 c1 c2 c3
      obtain ⟨c0, c1, c2, c3⟩ := cells4 HI5.out
      go_wp2_with fail
      refine HP5.out.mono ?_
      rintro e w6 ⟨rfl, r6⟩
      have R6 := Lib.hid (R5.out.trans r6)
      clear r6 c0 c1 c2 c3 d0 d1 d2 d3 d4 d5
      by_cases hq : qk = 0
      · have e2 : (qk != 0) = false := by simpa using hq
        have HP := Lib.hid (HPRE.out hq)
        clear hq
        go_wp2_with fail
        go_roundw
        case rel => exact ⟨k + 1, by omega, by go_num, HP, R6⟩
        case measure => first | (simp [intOf]; done) | (simp [intOf]; omega)
      · have e2 : (qk != 0) = true := by simpa using hq
        have HB := Lib.hid (HBAD.out hq)
        clear hq
        go_wp2_with fail
        go_ret
        exact ⟨by rw [HN2.out, HB.out] <;> rfl, R2.out.trans R6.out⟩
    · obtain rfl : k = is.length := by omega
      have HG : Hid (opsCk is r a = 0) := Lib.hid (find_good (fun i => ckIn i r a) is (fun j h => hpre.out j h h))
      clear c0 c1 c2 c3
      go_wp2_with fail
      go_ret
      exact ⟨by rw [HN2.out, HG.out] <;> rfl, R2.out.trans hfr.out⟩

end Go.Proofs.YtihnkijeefkefaaGreat

/- module.Check; shells; two functions the same. -/
namespace Go.Proofs.YtihnkijeefkefaaGreat
open Go.RowKit

attribute [local go_sem] Program.isFuncB Program.isSliceB

variable {w w' w'' w0 : World}

/-- a module's two slices -/
structure ModIn (w : World) (m : Mx) (da : Option Addr) (dc : Nat) (fa : Option Addr) : Prop where
  data : Reads w (.slice da m.d.length dc) 1 m.d.length (u8s m.d)
  fns : FnsIn w fa m.f
theorem ModIn.fr {m : Mx} {da fa : Option Addr} {dc : Nat} (h : ModIn w m da dc fa) (r : Fr no w w') : ModIn w' m da dc fa := ⟨h.data.fr r (by simp), h.fns.fr r⟩
structure Mx.Small (m : Mx) : Prop where
  data : m.d.length ≤ 1000
  fns : m.f.length ≤ 1000
  each : ∀ f ∈ m.f, f.Small
  lt : ∀ b ∈ m.d, b < 256

theorem modObj (w : World) (u v : Value) : (w.alloc (.cells #[u, v] 25)).heap[w.heap.size]? = some (.cells #[u, v] 25 (0, 0)) := heap_new _ _

set_option maxHeartbeats 4000000 in
theorem check_mod (w : World) (m : Mx) (da : Option Addr) (dc : Nat) (fa : Option Addr) (fc : Nat) (hm : ModIn w m da dc fa) (hs : m.Small) :
    Calls Tryz.prog 53 #[.agg #[.slice da m.d.length dc, .slice fa m.f.length fc]] w fun e w' => e = .returned (.int .i64 (modCk m)) ∧ Fr no w w' := by
  obtain ⟨ds, fs⟩ := m
  obtain ⟨hs1, hs2, hs3, -⟩ := hs
  dsimp only at hs1 hs2 hs3 ⊢
  have HF := Lib.hid hm.fns
  have HS := Lib.hid hs3
  have HI := Lib.hid (modObj w (.slice da ds.length dc) (.slice fa fs.length fc))
  have r0 := (Fr.refl no w).alloc (.cells #[.slice da ds.length dc, .slice fa fs.length fc] 25)
  have R0 := Lib.hid r0
  have HCK : Hid (modCk ⟨ds, fs⟩ = if 8192 < ds.length then 3 else if fs.length < 1 ∨ 64 < fs.length then 2 else fnsCk fs) := Lib.hid rfl
  generalize modCk ⟨ds, fs⟩ = ck at *
  clear r0 hm hs3
  go_enter Tryz.func53, Tryz.ntmps53
  obtain ⟨c0, c1⟩ := cells2 HI.out
  have h8' : ¬ (8192 : Int) < ds.length := by omega
  by_cases h1 : fs.length < 1
  · have h1' : (fs.length : Int) < 1 := by omega
    have HB : Hid (ck = 2) := Lib.hid (by rw [HCK.out, if_neg (by omega), if_pos (.inl h1)])
    go_wp2_with fail
    go_ret
    exact ⟨by rw [HB.out]; rfl, R0.out⟩
  have h1' : ¬ (fs.length : Int) < 1 := by omega
  by_cases h2 : 64 < fs.length
  · have h2' : (64 : Int) < fs.length := by omega
    have HB : Hid (ck = 2) := Lib.hid (by rw [HCK.out, if_neg (by omega), if_pos (.inr h2)])
    go_wp2_with fail
    go_ret
    exact ⟨by rw [HB.out]; rfl, R0.out⟩
  have h2' : ¬ (64 : Int) < fs.length := by omega
  have HN2 : Hid (ck = fnsCk fs) := Lib.hid (by rw [HCK.out, if_neg (by omega), if_neg (by omega)])
  clear HCK
  go_wp2_with fail
  go_loopw [25] (fun x wr => ∃ k : Nat, k ≤ fs.length ∧ x = .int .i64 k ∧ Hid (∀ j (_ : j < k) (h : j < fs.length), fnCk fs[j] = 0) ∧ Hid (Fr no w wr)) (fun x _ => (fs.length - intOf x).toNat)
  case atStart => exact ⟨0, by omega, rfl, Lib.hid (fun j h _ => by omega), R0⟩
  case round =>
    obtain ⟨k, hk, rfl, hpre, hfr⟩ := hrel
    by_cases hks : k < fs.length
    · have hks' : (k : Int) < fs.length := by omega
      obtain ⟨b, of, ca, cc, rfl, hi⟩ := HF.out.fr hfr.out k hks
      obtain ⟨d0, d1, d2, d3⟩ := hi.four
      have HPP := Lib.hid (fun w1 (h : Fr no wr w1) => fn_ok w1 fs[k] ca cc (hi.code.fr h) (HS.out _ (List.getElem_mem hks)))
      have HBAD : Hid (fnCk fs[k] ≠ 0 → fnsCk fs = fnCk fs[k]) := Lib.hid (fun h => find_bad fnCk fs k hks hpre.out h)
      have HPRE : Hid (fnCk fs[k] = 0 → ∀ j (_ : j < k + 1) (h : j < fs.length), fnCk fs[j] = 0) := Lib.hid (fun h0 j hj h => by
        by_cases he : j = k
        · subst he; exact h0
        · exact hpre.out j (by omega) h)
      generalize fnCk fs[k] = qk at *
      generalize fs[k] = fx at *
      clear hi
      obtain ⟨fp, fr, far, fcode⟩ := fx
      dsimp only at d0 d1 d2 d3 HPP
      have r5 := (Fr.refl no wr).alloc (.cells #[.int .i64 fp, .int .i64 fr, .int .i64 far, .slice ca fcode.length cc] 41)
      have R5 := Lib.hid (hfr.out.trans r5)
      have HP5 := Lib.hid (HPP.out _ r5)
      clear r5 HPP
      go_wp2_with fail
      refine HP5.out.mono ?_
      rintro e w6 ⟨rfl, r6⟩
      have R6 := Lib.hid (R5.out.trans r6)
      clear r6 d0 d1 d2 d3
      by_cases hq : qk = 0
      · have e2 : (qk != 0) = false := by simpa using hq
        have HP := Lib.hid (HPRE.out hq)
        clear hq
        go_wp2_with fail
        go_roundw
        case rel => exact ⟨k + 1, by omega, by go_num, HP, R6⟩
        case measure => first | (simp [intOf]; done) | (simp [intOf]; omega)
      · have e2 : (qk != 0) = true := by simpa using hq
        have HB := Lib.hid (HBAD.out hq)
        clear hq
        go_wp2_with fail
        go_ret
        exact ⟨by rw [HN2.out, HB.out] <;> rfl, R6.out⟩
    · obtain rfl : k = fs.length := by omega
      have HG : Hid (fnsCk fs = 0) := Lib.hid (find_good fnCk fs (fun j h => hpre.out j h h))
      go_wp2_with fail
      go_ret
      exact ⟨by rw [HN2.out, HG.out] <;> rfl, hfr.out⟩

end Go.Proofs.YtihnkijeefkefaaGreat

/- slices.EqualFunc over instructions and shells; shells; module.Same. -/
namespace Go.Proofs.YtihnkijeefkefaaGreat
open Go.RowKit

attribute [local go_sem] Program.isFuncB Program.isSliceB

variable {w w' w'' w0 : World}

set_option maxHeartbeats 4000000 in
/-- slices.EqualFunc, op.Same -/
theorem eqins_ok (w : World) (sa sb : Option Addr) (ca cb : Nat) (is js : List Ix) (hin : CodeIn w sa is) (hjn : CodeIn w sb js) (hlen : is.length ≤ 100000) (hargs : ∀ i ∈ is, i.l.length ≤ 100000) (hjl : js.length ≤ 100000) (hargs2 : ∀ i ∈ js, i.l.length ≤ 100000) :
    Calls Tryz.prog 177 #[.slice sa is.length ca, .slice sb js.length cb, .func (.func 178) #[] #[]] w fun e w' => e = .returned (.bool (decide (is = js))) ∧ Fr no w w' := by
  by_cases hl : is.length = js.length
  case neg =>
    have HN : Hid (decide (is = js) = false) := Lib.hid (decide_eq_false (fun e => hl (by rw [e])))
    have e1 : ((is.length : Int) != (js.length : Int)) = true := by rw [bne_iff_ne]; omega
    clear hl hin hjn hargs hargs2
    go_enter Tryz.func177, Tryz.ntmps177
    go_wp2_with fail
    go_ret
    exact ⟨by rw [HN.out]; rfl, Fr.refl _ _⟩
  have HIN := Lib.hid hin
  have HJN := Lib.hid hjn
  have HAR := Lib.hid hargs
  have HAR2 := Lib.hid hargs2
  have hl0 := hl
  clear hin hjn hargs hargs2 hl
  generalize hmm : js.length = mm at *
  obtain rfl : mm = is.length := by omega
  have HJL := Lib.hid hmm
  clear hmm hl0
  go_enter Tryz.func177, Tryz.ntmps177
  go_wp2_with fail
  go_loopw [17] (fun x wr => ∃ k : Nat, k ≤ is.length ∧ x = .int .i64 k ∧ Hid (is.take k = js.take k) ∧ Hid (Fr no w wr)) (fun x _ => (is.length - intOf x).toNat)
  case atStart => exact ⟨0, by omega, rfl, Lib.hid rfl, Lib.hid (Fr.refl _ _)⟩
  case round =>
    obtain ⟨k, hk, rfl, hpre, hfr⟩ := hrel
    by_cases hks : k < is.length
    · have hks' : (k : Int) < is.length := by omega
      have hkj : k < js.length := by have := HJL.out; omega
      obtain ⟨b1, o1, u1, rfl, h1⟩ := HIN.out.fr hfr.out k hks
      obtain ⟨b2, o2, u2, rfl, h2⟩ := HJN.out.fr hfr.out k hkj
      obtain ⟨i1, hi1⟩ : ∃ i, i = is[k] := ⟨_, rfl⟩
      obtain ⟨i2, hi2⟩ : ∃ i, i = js[k] := ⟨_, rfl⟩
      have HS := Lib.hid (fun w1 (r : Fr no wr w1) => same_ok w1 i1.o i1.A i1.B i1.C i1.N i2.o i2.A i2.B i2.C i2.N u1 u2 i1.l i2.l (by rw [hi1]; exact h1.args.fr r (by simp)) (by rw [hi2]; exact h2.args.fr r (by simp)) (by have := HAR.out _ (List.getElem_mem hks); rw [hi1]; omega) (by have := HAR2.out _ (List.getElem_mem hkj); rw [hi2]; omega))
      have HD : Hid (decide (i1.o = i2.o ∧ i1.A = i2.A ∧ i1.B = i2.B ∧ i1.C = i2.C ∧ i1.N = i2.N ∧ i1.l = i2.l) = decide (is.take (k + 1) = js.take (k + 1))) := Lib.hid (by
        rw [List.take_succ_eq_append_getElem hks, List.take_succ_eq_append_getElem hkj, hpre.out, ← hi1, ← hi2]
        obtain ⟨a1, a2, a3, a4, a5, a6⟩ := i1
        obtain ⟨b1, b2, b3, b4, b5, b6⟩ := i2
        simp)
      have HB : Hid (decide (is.take (k + 1) = js.take (k + 1)) = false → decide (is = js) = false) := Lib.hid (fun h => decide_eq_false (fun e => by rw [e] at h; simp at h))
      have HT : Hid (decide (is.take (k + 1) = js.take (k + 1)) = true → is.take (k + 1) = js.take (k + 1)) := Lib.hid (fun h => by simpa using h)
      obtain ⟨p0, p1, p2, p3, p4, p5⟩ := h1.six
      obtain ⟨ua1, uc1, rfl⟩ := h1.args.shape
      obtain ⟨ua2, uc2, rfl⟩ := h2.args.shape
      have H2 := Lib.hid h2
      rw [← hi1] at p0 p1 p2 p3 p4 p5 HS
      rw [← hi2] at H2 HS
      clear h1 h2 hi1 hi2
      obtain ⟨a1, a2, a3, a4, a5, a6⟩ := i1
      obtain ⟨d1, d2, d3, d4, d5, d6⟩ := i2
      unfold insV at HS
      dsimp only at p0 p1 p2 p3 p4 p5 HS HD H2
      generalize decide (a1 = d1 ∧ a2 = d2 ∧ a3 = d3 ∧ a4 = d4 ∧ a5 = d5 ∧ a6 = d6) = q at *
      have r1 := (Fr.refl no wr).alloc (.cells #[.int .i64 a1, .int .i64 a2, .int .i64 a3, .int .i64 a4, .int .i64 a5, .slice ua1 a6.length uc1] 112)
      have r2 := r1.alloc (.cells #[.int .i64 d1, .int .i64 d2, .int .i64 d3, .int .i64 d4, .int .i64 d5, .slice ua2 d6.length uc2] 112)
      have HS1 := Lib.hid (HS.out _ r2)
      have R2 := Lib.hid (hfr.out.trans r2)
      obtain ⟨q0, q1, q2, q3, q4, q5⟩ := (H2.out.fr r1).six
      clear r1 r2 HS
      dsimp only at q0 q1 q2 q3 q4 q5
      go_wp2_with fail
      refine HS1.out.mono ?_
      rintro e w2 ⟨rfl, r2⟩
      have R3 := Lib.hid (R2.out.trans r2)
      clear r2 p0 p1 p2 p3 p4 p5 q0 q1 q2 q3 q4 q5
      cases q
      · have HF := Lib.hid (HB.out HD.out.symm)
        go_wp2_with fail
        go_ret
        exact ⟨by rw [HF.out]; rfl, R3.out⟩
      · have HF := Lib.hid (HT.out HD.out.symm)
        go_wp2_with fail
        go_roundw
        case rel => exact ⟨k + 1, by omega, by go_num, HF, R3⟩
        case measure => first | (simp [intOf]; done) | (simp [intOf]; omega)
    · obtain rfl : k = is.length := by omega
      have HE : Hid (decide (is = js) = true) := Lib.hid (decide_eq_true (by
        have := hpre.out
        rwa [List.take_length, ← HJL.out, List.take_length] at this))
      go_wp2_with fail
      go_ret
      exact ⟨by rw [HE.out]; rfl, hfr.out⟩

end Go.Proofs.YtihnkijeefkefaaGreat

/- shells, shell.same, slices.EqualFunc over shells, module.Same. -/
namespace Go.Proofs.YtihnkijeefkefaaGreat
open Go.RowKit

attribute [local go_sem] Program.isFuncB Program.isSliceB

variable {w w' w'' w0 : World}

/-! ### functions in an array of the call's own -/
abbrev FxV := Fx × Option Addr × Nat
def FxV.val (p : FxV) : Value := .slice p.2.1 p.1.c.length p.2.2
def fCells (l : List FxV) : List Value := l.flatMap (fun p => p.1.cells p.val)
theorem fCells_snoc (l : List FxV) (p : FxV) : fCells (l ++ [p]) = fCells l ++ p.1.cells p.val := by simp [fCells]
theorem fCells_len : ∀ (l : List FxV), (fCells l).length = l.length * 4
  | [] => rfl
  | p :: l => by
    have := fCells_len l
    simp only [fCells, List.flatMap_cons, List.length_append, List.length_cons] at *
    rw [this]
    simp [Fx.cells]
    omega
theorem fCells_get : ∀ (l : List FxV) (k j : Nat) (hk : k < l.length), j < 4 → (fCells l)[k * 4 + j]? = (l[k].1.cells l[k].val)[j]?
  | [], k, j, hk, _ => by simp at hk
  | p :: l, k, j, hk, hj => by
    have h6 : (p.1.cells p.val).length = 4 := rfl
    simp only [fCells, List.flatMap_cons]
    match k with
    | 0 => rw [List.getElem?_append_left (by rw [h6]; omega)]; simp
    | k + 1 =>
      rw [List.getElem?_append_right (by rw [h6]; omega), h6, show (k + 1) * 4 + j - 4 = k * 4 + j from by omega]
      exact fCells_get l k j (by simpa using hk) hj
theorem fns_owns {base : Nat} {u : Value} {t : TypeId} {l : List FxV} (h : w.ownsRow base t 4 u l.length (fCells l)) (ha : ∀ p ∈ l, CodeIn w p.2.1 p.1.c) :
    ∃ a c, u = .slice a l.length c ∧ FnsIn w a (l.map Prod.fst) := by
  rcases h.2 with ⟨rfl, h0⟩ | ⟨g, cap, cur, rfl, hb, hg, h1, h2, h3, h4⟩
  · exact ⟨none, 0, by rw [h0], fun k hk => by simp at hk; omega⟩
  · refine ⟨_, _, rfl, fun k hk => ?_⟩
    have hk' : k < l.length := by simpa using hk
    refine ⟨g, 0, l[k].2.1, l[k].2.2, rfl, ⟨fun j v hj => ?_, ?_⟩⟩
    · have hj6 : j < 4 := (List.getElem?_eq_some_iff.1 hj).1
      simp only [List.getElem_map] at hj
      have hj' : (l[k].1.cells l[k].val)[j]? = some v := hj
      rw [← fCells_get l k j hk' hj6] at hj'
      have := h.cells rfl (k * 4 + j) v hj'
      rw [Addr.add_lit] at this
      rw [Nat.zero_add] at this ⊢
      exact this
    · simp only [List.getElem_map]
      exact ha _ (List.getElem_mem hk')
theorem reads_four (w : World) (a0 a1 a2 a3 : Value) (e : TypeId) : Reads (w.alloc (.cells #[a0, a1, a2, a3] e)) (.slice (some ⟨w.heap.size, 0, none⟩) 1 1) 4 1 [a0, a1, a2, a3] := by
  refine .inr ⟨_, 1, rfl, Nat.le_refl _, by unfold maxLen; omega, rfl, fun j u hu => ?_⟩
  rw [Addr.add_lit]
  refine cell_of_heap (heap_new w _) ?_
  rw [Nat.zero_add]
  simpa using hu
theorem four_one (o A B : Int) (l : Nat) (ua : Option Addr) (uc : Nat) (_ : Unit) : ∀ v ∈ [Value.int .i64 o, .int .i64 A, .int .i64 B, .slice ua l uc], v.oneCell' = true := by
  intro v hv
  simp only [List.mem_cons, List.not_mem_nil, or_false] at hv
  rcases hv with rfl | rfl | rfl | rfl <;> rfl
def zeroFn : Array Value := #[.int .i64 0, .int .i64 0, .int .i64 0, .slice none 0 0]
theorem Tryz.infoShell3 : (Tryz.prog.info? 171).map (fun i => (i.zero, i.size, i.bytes)) = some (some (.agg zeroFn), 4, 48) := by kernel_rfl
set_option maxHeartbeats 4000000 in
theorem shells_ok (w : World) (fa : Option Addr) (fc : Nat) (fs : List Fx) (hin : FnsIn w fa fs) (hl : fs.length ≤ 1000) :
    Calls Tryz.prog 149 #[.slice fa fs.length fc] w fun e w' => ∃ a c, e = .returned (.slice a fs.length c) ∧ FnsIn w' a fs ∧ Fr no w w' := by
  have HIN := Lib.hid hin
  clear hin
  go_enter Tryz.func149, Tryz.ntmps149
  go_wp2_with fail
  go_loopw [3, 8] (fun x y wr => ∃ l : List FxV, l.length ≤ fs.length ∧ y = .int .i64 l.length ∧ Hid (l.map Prod.fst = fs.take l.length) ∧ Hid (wr.ownsRow w.heap.size 171 4 x l.length (fCells l)) ∧ Hid (∀ p ∈ l, CodeIn w p.2.1 p.1.c) ∧ Hid (Fr no w wr)) (fun _ y _ => (fs.length - intOf y).toNat)
  case atStart => exact ⟨[], by simp, rfl, Lib.hid rfl, Lib.hid (World.ownsRow_nil _ _ _ _), Lib.hid (fun p hp => (by cases hp)), Lib.hid (Fr.refl _ _)⟩
  case round =>
    obtain ⟨l, hk, rfl, hpre, hown, hcode, hfr⟩ := hrel
    obtain ⟨xa, xc, rfl⟩ := owns_shape hown.out
    by_cases hks : l.length < fs.length
    · have hks' : (l.length : Int) < fs.length := by omega
      obtain ⟨b, of, ca, cc, rfl, hi⟩ := HIN.out.fr hfr.out l.length hks
      obtain ⟨_, _, ca0, cc0, hq, hi0⟩ := HIN.out l.length hks
      obtain ⟨d0, d1, d2, d3⟩ := hi.four
      obtain ⟨ix, hix⟩ : ∃ i, i = fs[l.length] := ⟨_, rfl⟩
      have HSN : Hid (l.map Prod.fst ++ [ix] = fs.take (l.length + 1)) := Lib.hid (by rw [List.take_succ_eq_append_getElem hks, hpre.out, hix])
      have HC0 : Hid (CodeIn w ca ix.c) := Lib.hid (by
        cases hq
        have e3 := hfr.out.cell (hi0.four.2.2.2) (by simp)
        rw [d3] at e3
        cases e3
        rw [hix]
        exact hi0.code)
      rw [← hix] at d0 d1 d2 d3
      clear hi hi0 hq hix
      obtain ⟨fp, fr, far, fcode⟩ := ix
      dsimp only at d0 d1 d2 d3 HC0
      have r6 := (Fr.refl no wr).alloc (.cells #[.int .i64 fp, .int .i64 fr, .int .i64 far, .slice ca fcode.length cc] 41)
      have HI6 := Lib.hid (fnObj wr fp fr far (.slice ca fcode.length cc))
      have r7 := r6.alloc (.cells #[.int .i64 fp, .int .i64 fr, .int .i64 far, .slice ca fcode.length cc] 171)
      have R7 := Lib.hid (hfr.out.trans r7)
      have HO7 := Lib.hid (owns_fr hown.out r7 (by simp))
      have hr7 := (reads_four (wr.alloc (.cells #[.int .i64 fp, .int .i64 fr, .int .i64 far, .slice ca fcode.length cc] 41)) (.int .i64 fp) (.int .i64 fr) (.int .i64 far) (.slice ca fcode.length cc) 171)
      rw [World.size_alloc] at hr7
      have HR7 := Lib.hid hr7
      clear r6 r7 hr7
      obtain ⟨e0, e1, e2, e3⟩ := cells4 HI6.out
      go_wp2_with (at_builtin; (refine wpList_append_at rfl (.tmp 12) _ 170 rfl w.heap.size 171 (.agg zeroFn) 4 48 Tryz.underlying170 Tryz.infoShell3 rfl (by decide) _ l.length _ rfl HO7.out 1 _ HR7.out (four_one _ _ _ _ _ _ ()) (by unfold maxLen; omega) (by omega) R7.out.size ?_); intro gd ge w8 ho hg hb)
      have HO8 : Hid (w8.ownsRow w.heap.size 171 4 (.slice gd (l.length + 1) ge) (l ++ [(Fx.mk fp fr far fcode, ca, cc)]).length (fCells (l ++ [(Fx.mk fp fr far fcode, ca, cc)]))) := Lib.hid (by rw [fCells_snoc, List.length_append]; exact ho)
      have R8 := Lib.hid (R7.out.trans' ((Fr.refl (fun k => (Value.slice xa l.length xc).ownBlock = some k) _).grown hg (fun k hk => .inl hk)) (fun k hk _ => (hown.out.lt k hk).1))
      have HC8 : Hid (∀ p ∈ l ++ [((Fx.mk fp fr far fcode, ca, cc) : FxV)], CodeIn w p.2.1 p.1.c) := Lib.hid (fun p hp => by
        rcases List.mem_append.1 hp with hp | hp
        · exact hcode.out p hp
        · rw [List.mem_singleton] at hp; subst hp; exact HC0.out)
      clear ho hg hb
      go_roundw
      case rel => exact ⟨l ++ [(Fx.mk fp fr far fcode, ca, cc)], by simp; omega, by rw [List.length_append]; go_num, Lib.hid (by rw [List.map_append, List.length_append]; exact HSN.out), HO8, HC8, R8⟩
      case measure => first | (simp [intOf]; done) | (simp [intOf]; omega)
    · have hlk : l.length = fs.length := by omega
      have HLK := Lib.hid hlk
      have HQ : Hid (FnsIn wr xa fs) := Lib.hid (by
        obtain ⟨a, c', h1, h2⟩ := fns_owns hown.out (fun p hp => (hcode.out p hp).fr hfr.out)
        rw [hpre.out, hlk, List.take_length] at h2
        cases h1
        exact h2)
      clear hpre hlk hown hcode
      go_wp2_with fail
      go_ret
      exact ⟨xa, xc, by rw [← HLK.out]; rfl, HQ.out, hfr.out⟩

theorem shellObj (w : World) (p r a : Int) (u : Value) : (w.alloc (.cells #[.int .i64 p, .int .i64 r, .int .i64 a, u] 171)).heap[w.heap.size]? = some (.cells #[.int .i64 p, .int .i64 r, .int .i64 a, u] 171 (0, 0)) := heap_new _ _

set_option maxHeartbeats 4000000 in
theorem shellsame_ok (w : World) (f g : Fx) (ca cb : Option Addr) (c1 c2 : Nat) (hf : CodeIn w ca f.c) (hg : CodeIn w cb g.c) (sf : f.Small) (sg : g.Small) :
    Calls Tryz.prog 150 #[.agg #[.int .i64 f.p, .int .i64 f.r, .int .i64 f.a, .slice ca f.c.length c1], .agg #[.int .i64 g.p, .int .i64 g.r, .int .i64 g.a, .slice cb g.c.length c2]] w fun e w' => e = .returned (.bool (decide (f = g))) ∧ Fr no w w' := by
  obtain ⟨p, r, a, is⟩ := f
  obtain ⟨p', r', a', js⟩ := g
  obtain ⟨s1, s2⟩ := sf
  obtain ⟨s3, s4⟩ := sg
  dsimp only at hf hg s1 s2 s3 s4 ⊢
  have r1 := (Fr.refl no w).alloc (.cells #[.int .i64 p, .int .i64 r, .int .i64 a, .slice ca is.length c1] 171)
  have r2 := r1.alloc (.cells #[.int .i64 p', .int .i64 r', .int .i64 a', .slice cb js.length c2] 171)
  have q2 := (Fr.refl no (w.alloc (.cells #[.int .i64 p, .int .i64 r, .int .i64 a, .slice ca is.length c1] 171))).alloc (.cells #[.int .i64 p', .int .i64 r', .int .i64 a', .slice cb js.length c2] 171)
  have R2 := Lib.hid r2
  have H1 := Lib.hid (q2.heap (shellObj w p r a (.slice ca is.length c1)) (by simp))
  have H2 := Lib.hid (shellObj (w.alloc (.cells #[.int .i64 p, .int .i64 r, .int .i64 a, .slice ca is.length c1] 171)) p' r' a' (.slice cb js.length c2))
  have HE := Lib.hid (eqins_ok _ ca cb c1 c2 is js (hf.fr r2) (hg.fr r2) (by omega) (fun i hi => by have := s2 i hi; omega) (by omega) (fun i hi => by have := s4 i hi; omega))
  have HD : Hid (decide ((⟨p, r, a, is⟩ : Fx) = ⟨p', r', a', js⟩) = (decide (p = p') && (decide (r = r') && (decide (a = a') && decide (is = js))))) := Lib.hid (by simp)
  generalize decide ((⟨p, r, a, is⟩ : Fx) = ⟨p', r', a', js⟩) = q at *
  generalize decide (is = js) = qc at *
  clear r1 r2 q2 hf hg s2 s4
  go_enter Tryz.func150, Tryz.ntmps150
  obtain ⟨e0, e1, e2, e3⟩ := cells4 H1.out
  obtain ⟨d0, d1, d2, d3⟩ := cells4 H2.out
  by_cases hp : p = p'
  case neg =>
    have x1 : (p == p') = false := by simpa using hp
    have HF : Hid (q = false) := Lib.hid (by rw [HD.out, decide_eq_false hp]; rfl)
    clear hp
    go_wp2_with fail
    go_ret
    exact ⟨by rw [HF.out]; rfl, R2.out⟩
  have x1 : (p == p') = true := by simpa using hp
  by_cases hr : r = r'
  case neg =>
    have x2 : (r == r') = false := by simpa using hr
    have HF : Hid (q = false) := Lib.hid (by rw [HD.out, decide_eq_true hp, decide_eq_false hr]; rfl)
    clear hp hr
    go_wp2_with fail
    go_ret
    exact ⟨by rw [HF.out]; rfl, R2.out⟩
  have x2 : (r == r') = true := by simpa using hr
  by_cases ha : a = a'
  case neg =>
    have x3 : (a == a') = false := by simpa using ha
    have HF : Hid (q = false) := Lib.hid (by rw [HD.out, decide_eq_true hp, decide_eq_true hr, decide_eq_false ha]; rfl)
    clear hp hr ha
    go_wp2_with fail
    go_ret
    exact ⟨by rw [HF.out]; rfl, R2.out⟩
  have x3 : (a == a') = true := by simpa using ha
  have HF : Hid (q = qc) := Lib.hid (by rw [HD.out, decide_eq_true hp, decide_eq_true hr, decide_eq_true ha]; rfl)
  clear hp hr ha HD
  go_wp2_with fail
  refine HE.out.mono ?_
  rintro e w3 ⟨rfl, r3⟩
  have R3 := Lib.hid (R2.out.trans r3)
  clear r3
  go_wp2_with fail
  go_ret
  exact ⟨by rw [HF.out]; rfl, R3.out⟩

end Go.Proofs.YtihnkijeefkefaaGreat

/- slices.EqualFunc over shells, module.Same. -/
namespace Go.Proofs.YtihnkijeefkefaaGreat
open Go.RowKit

attribute [local go_sem] Program.isFuncB Program.isSliceB

variable {w w' w'' w0 : World}

set_option maxHeartbeats 4000000 in
theorem eqshell_ok (w : World) (sa sb : Option Addr) (ca cb : Nat) (is js : List Fx) (hin : FnsIn w sa is) (hjn : FnsIn w sb js) (hlen : is.length ≤ 1000) (hargs : ∀ i ∈ is, i.Small) (hjl : js.length ≤ 1000) (hargs2 : ∀ i ∈ js, i.Small) :
    Calls Tryz.prog 148 #[.slice sa is.length ca, .slice sb js.length cb, .func (.func 150) #[] #[]] w fun e w' => e = .returned (.bool (decide (is = js))) ∧ Fr no w w' := by
  by_cases hl : is.length = js.length
  case neg =>
    have HN : Hid (decide (is = js) = false) := Lib.hid (decide_eq_false (fun e => hl (by rw [e])))
    have e1 : ((is.length : Int) != (js.length : Int)) = true := by rw [bne_iff_ne]; omega
    clear hl hin hjn hargs hargs2
    go_enter Tryz.func148, Tryz.ntmps148
    go_wp2_with fail
    go_ret
    exact ⟨by rw [HN.out]; rfl, Fr.refl _ _⟩
  have HIN := Lib.hid hin
  have HJN := Lib.hid hjn
  have HAR := Lib.hid hargs
  have HAR2 := Lib.hid hargs2
  have hl0 := hl
  clear hin hjn hargs hargs2 hl
  generalize hmm : js.length = mm at *
  obtain rfl : mm = is.length := by omega
  have HJL := Lib.hid hmm
  clear hmm hl0
  go_enter Tryz.func148, Tryz.ntmps148
  go_wp2_with fail
  go_loopw [17] (fun x wr => ∃ k : Nat, k ≤ is.length ∧ x = .int .i64 k ∧ Hid (is.take k = js.take k) ∧ Hid (Fr no w wr)) (fun x _ => (is.length - intOf x).toNat)
  case atStart => exact ⟨0, by omega, rfl, Lib.hid rfl, Lib.hid (Fr.refl _ _)⟩
  case round =>
    obtain ⟨k, hk, rfl, hpre, hfr⟩ := hrel
    by_cases hks : k < is.length
    · have hks' : (k : Int) < is.length := by omega
      have hkj : k < js.length := by have := HJL.out; omega
      obtain ⟨b1, o1, v1, c1, rfl, h1⟩ := HIN.out.fr hfr.out k hks
      obtain ⟨b2, o2, v2, c2, rfl, h2⟩ := HJN.out.fr hfr.out k hkj
      obtain ⟨i1, hi1⟩ : ∃ i, i = is[k] := ⟨_, rfl⟩
      obtain ⟨i2, hi2⟩ : ∃ i, i = js[k] := ⟨_, rfl⟩
      have HS := Lib.hid (fun w1 (r : Fr no wr w1) => shellsame_ok w1 i1 i2 v1 v2 c1 c2 (by rw [hi1]; exact h1.code.fr r) (by rw [hi2]; exact h2.code.fr r) (by rw [hi1]; exact HAR.out _ (List.getElem_mem hks)) (by rw [hi2]; exact HAR2.out _ (List.getElem_mem hkj)))
      have HD : Hid (decide (i1 = i2) = decide (is.take (k + 1) = js.take (k + 1))) := Lib.hid (by
        rw [List.take_succ_eq_append_getElem hks, List.take_succ_eq_append_getElem hkj, hpre.out, ← hi1, ← hi2]
        simp)
      have HB : Hid (decide (is.take (k + 1) = js.take (k + 1)) = false → decide (is = js) = false) := Lib.hid (fun h => decide_eq_false (fun e => by rw [e] at h; simp at h))
      have HT : Hid (decide (is.take (k + 1) = js.take (k + 1)) = true → is.take (k + 1) = js.take (k + 1)) := Lib.hid (fun h => by simpa using h)
      obtain ⟨p0, p1, p2, p3⟩ := h1.four
      have H2 := Lib.hid h2
      rw [← hi1] at p0 p1 p2 p3
      rw [← hi2] at H2
      clear h1 h2 hi1 hi2
      generalize decide (i1 = i2) = q at *
      obtain ⟨a1, a2, a3, a6⟩ := i1
      obtain ⟨d1, d2, d3, d6⟩ := i2
      dsimp only at p0 p1 p2 p3 HS H2
      have r1 := (Fr.refl no wr).alloc (.cells #[.int .i64 a1, .int .i64 a2, .int .i64 a3, .slice v1 a6.length c1] 171)
      have r2 := r1.alloc (.cells #[.int .i64 d1, .int .i64 d2, .int .i64 d3, .slice v2 d6.length c2] 171)
      have HS1 := Lib.hid (HS.out _ r2)
      have R2 := Lib.hid (hfr.out.trans r2)
      obtain ⟨q0, q1, q2, q3⟩ := (H2.out.fr r1).four
      clear r1 r2 HS
      dsimp only at q0 q1 q2 q3
      go_wp2_with fail
      refine HS1.out.mono ?_
      rintro e w2 ⟨rfl, r2⟩
      have R3 := Lib.hid (R2.out.trans r2)
      clear r2 p0 p1 p2 p3 q0 q1 q2 q3
      cases q
      · have HF := Lib.hid (HB.out HD.out.symm)
        go_wp2_with fail
        go_ret
        exact ⟨by rw [HF.out]; rfl, R3.out⟩
      · have HF := Lib.hid (HT.out HD.out.symm)
        go_wp2_with fail
        go_roundw
        case rel => exact ⟨k + 1, by omega, by go_num, HF, R3⟩
        case measure => first | (simp [intOf]; done) | (simp [intOf]; omega)
    · obtain rfl : k = is.length := by omega
      have HE : Hid (decide (is = js) = true) := Lib.hid (decide_eq_true (by
        have := hpre.out
        rwa [List.take_length, ← HJL.out, List.take_length] at this))
      go_wp2_with fail
      go_ret
      exact ⟨by rw [HE.out]; rfl, hfr.out⟩

set_option maxRecDepth 100000 in
set_option maxHeartbeats 8000000 in
theorem samemod_ok (w : World) (m m' : Mx) (da fa db fb : Option Addr) (dc fc dd fd : Nat) (hm : ModIn w m da dc fa) (hn : ModIn w m' db dd fb) (hs : m.Small) (hs' : m'.Small) :
    Calls Tryz.prog 93 #[.agg #[.slice da m.d.length dc, .slice fa m.f.length fc], .agg #[.slice db m'.d.length dd, .slice fb m'.f.length fd]] w fun e w' => e = .returned (.bool (decide (m = m'))) ∧ Fr no w w' := by
  obtain ⟨ds, fs⟩ := m
  obtain ⟨es, gs⟩ := m'
  obtain ⟨s1, s2, s3, s4⟩ := hs
  obtain ⟨t1, t2, t3, t4⟩ := hs'
  dsimp only at s1 s2 s3 s4 t1 t2 t3 t4 ⊢
  have r1 := (Fr.refl no w).alloc (.cells #[.slice da ds.length dc, .slice fa fs.length fc] 25)
  have r2 := r1.alloc (.cells #[.slice db es.length dd, .slice fb gs.length fd] 25)
  have q2 := (Fr.refl no (w.alloc (.cells #[.slice da ds.length dc, .slice fa fs.length fc] 25))).alloc (.cells #[.slice db es.length dd, .slice fb gs.length fd] 25)
  have R2 := Lib.hid r2
  have H1 := Lib.hid (q2.heap (modObj w (.slice da ds.length dc) (.slice fa fs.length fc)) (by simp))
  have h2 := (modObj (w.alloc (.cells #[.slice da ds.length dc, .slice fa fs.length fc] 25)) (.slice db es.length dd) (.slice fb gs.length fd))
  rw [World.size_alloc] at h2
  have H2 := Lib.hid h2
  have D1 := Lib.hid (hm.data.fr r2 (by simp))
  have D2 := Lib.hid (hn.data.fr r2 (by simp))
  have HX := Lib.hid (strB_eq ds es s4 t4)
  have F1 := Lib.hid (hm.fns.fr r2)
  have F2 := Lib.hid (hn.fns.fr r2)
  have S3 := Lib.hid s3
  have T3 := Lib.hid t3
  have HD : Hid (decide ((⟨ds, fs⟩ : Mx) = ⟨es, gs⟩) = (decide (ds = es) && decide (fs = gs))) := Lib.hid (by simp)
  generalize decide ((⟨ds, fs⟩ : Mx) = ⟨es, gs⟩) = q at *
  generalize decide (ds = es) = qd at *
  clear r1 r2 q2 h2 hm hn s3 s4 t3 t4
  generalize hwz : (w.alloc (.cells #[.slice da ds.length dc, .slice fa fs.length fc] 25)).alloc (.cells #[.slice db es.length dd, .slice fb gs.length fd] 25) = wz at *
  go_enter Tryz.func93, Tryz.ntmps93
  obtain ⟨e0, e1⟩ := cells2 H1.out
  obtain ⟨d0, d1⟩ := cells2 H2.out
  go_wp2_with fail
  try rw [hwz]
  clear hwz
  have A1 := Lib.hid (fun w' (r : Fr no wz w') => conv_reads (D1.out.fr r (by simp)) 9 Tryz.underlying9)
  have A2 := Lib.hid (fun w' (r : Fr no wz w') => conv_reads (D2.out.fr r (by simp)) 9 Tryz.underlying9)
  generalize strB ds = sd at *
  generalize strB es = se at *
  have HS := Lib.hid (fun w' (r : Fr no wz w') => (⟨r.cell e0 (by simp), r.cell d0 (by simp), r.cell e1 (by simp), r.cell d1 (by simp), A1.out w' r, A2.out w' r⟩ : (fun w' => w'.cell? ⟨w.heap.size, 0, none⟩ = some (.slice da ds.length dc) ∧ w'.cell? ⟨w.heap.size + 1, 0, none⟩ = some (.slice db es.length dd) ∧ w'.cell? ⟨w.heap.size, 1, none⟩ = some (.slice fa fs.length fc) ∧ w'.cell? ⟨w.heap.size + 1, 1, none⟩ = some (.slice fb gs.length fd) ∧ (convert 22 9 (.slice da ds.length dc)).run Tryz.prog w' = .ok (.string sd) w' ∧ (convert 22 9 (.slice db es.length dd)).run Tryz.prog w' = .ok (.string se) w') w'))
  clear e0 e1 d0 d1 H1 H2 A1 A2
  cases qd
  · have x1 : (sd.toList == se.toList) = false := HX.out
    have HF : Hid (q = false) := Lib.hid (by rw [HD.out]; rfl)
    refine Lex.region [10, 13, 14] [17] (by kernel_rfl) (by kernel_rfl) ?_
    refine Lex.opens (fun w' => w'.cell? ⟨w.heap.size, 0, none⟩ = some (.slice da ds.length dc) ∧ w'.cell? ⟨w.heap.size + 1, 0, none⟩ = some (.slice db es.length dd) ∧ w'.cell? ⟨w.heap.size, 1, none⟩ = some (.slice fa fs.length fc) ∧ w'.cell? ⟨w.heap.size + 1, 1, none⟩ = some (.slice fb gs.length fd) ∧ (convert 22 9 (.slice da ds.length dc)).run Tryz.prog w' = .ok (.string sd) w' ∧ (convert 22 9 (.slice db es.length dd)).run Tryz.prog w' = .ok (.string se) w') (HS.out _ (Fr.refl no wz).drew) ?_
    repeat (first
      | (refine Lex.skips (by rfl) ?_; (try simp only [Act.put, List.setIfInBounds_toArray, List.set_cons_zero, List.set_cons_succ]))
      | (refine Lex.quiet (v := ?_) (by rfl) (by rfl) ?_ ?_; rotate_left; (focus (intro w' hS'; go_simp; try rfl)); (try simp only [Act.put, List.setIfInBounds_toArray, List.set_cons_zero, List.set_cons_succ])))
    refine Lex.done ?_
    refine Lex.ends ?_
    go_wp2_with fail
    go_ret
    exact ⟨by rw [HF.out]; rfl, R2.out.drew⟩
  · have x1 : (sd.toList == se.toList) = true := HX.out
    have HF : Hid (q = decide (fs = gs)) := Lib.hid (by rw [HD.out]; rfl)
    refine Lex.region [10, 13, 14] [17] (by kernel_rfl) (by kernel_rfl) ?_
    refine Lex.opens (fun w' => w'.cell? ⟨w.heap.size, 0, none⟩ = some (.slice da ds.length dc) ∧ w'.cell? ⟨w.heap.size + 1, 0, none⟩ = some (.slice db es.length dd) ∧ w'.cell? ⟨w.heap.size, 1, none⟩ = some (.slice fa fs.length fc) ∧ w'.cell? ⟨w.heap.size + 1, 1, none⟩ = some (.slice fb gs.length fd) ∧ (convert 22 9 (.slice da ds.length dc)).run Tryz.prog w' = .ok (.string sd) w' ∧ (convert 22 9 (.slice db es.length dd)).run Tryz.prog w' = .ok (.string se) w') (HS.out _ (Fr.refl no wz).drew) ?_
    repeat (first
      | (refine Lex.skips (by rfl) ?_; (try simp only [Act.put, List.setIfInBounds_toArray, List.set_cons_zero, List.set_cons_succ]))
      | (refine Lex.quiet (v := ?_) (by rfl) (by rfl) ?_ ?_; rotate_left; (focus (intro w' hS'; go_simp; try rfl)); (try simp only [Act.put, List.setIfInBounds_toArray, List.set_cons_zero, List.set_cons_succ])))
    refine Lex.loud (by rfl) (by rfl) ?_
    intro K' hK'
    go_simp
    refine (shells_ok _ fa fc fs (F1.out.fr (Fr.refl no wz).drew) s2).mono ?_
    rintro e w4 ⟨ga, gc, rfl, hg, r4⟩
    have R4 := Lib.hid ((Fr.refl no wz).drew.trans r4)
    have G4 := Lib.hid hg
    clear hg r4
    refine hK' _ _ (HS.out _ R4.out) ?_
    clear hK'
    try simp only [Act.put, List.setIfInBounds_toArray, List.set_cons_zero, List.set_cons_succ]
    repeat (first
      | (refine Lex.skips (by rfl) ?_; (try simp only [Act.put, List.setIfInBounds_toArray, List.set_cons_zero, List.set_cons_succ]))
      | (refine Lex.quiet (v := ?_) (by rfl) (by rfl) ?_ ?_; rotate_left; (focus (intro w' hS'; go_simp; try rfl)); (try simp only [Act.put, List.setIfInBounds_toArray, List.set_cons_zero, List.set_cons_succ])))
    refine Lex.loud (by rfl) (by rfl) ?_
    intro K' hK'
    go_simp
    refine (shells_ok _ fb fd gs (F2.out.fr R4.out) t2).mono ?_
    rintro e w5 ⟨ka, kc, rfl, hk5, r5⟩
    have R5 := Lib.hid (R4.out.trans r5)
    have HEQ := Lib.hid (eqshell_ok w5 ga ka gc kc fs gs (G4.out.fr r5) hk5 s2 S3.out t2 T3.out)
    clear hk5 r5
    refine hK' _ _ (HS.out _ R5.out) ?_
    clear hK'
    try simp only [Act.put, List.setIfInBounds_toArray, List.set_cons_zero, List.set_cons_succ]
    repeat (first
      | (refine Lex.skips (by rfl) ?_; (try simp only [Act.put, List.setIfInBounds_toArray, List.set_cons_zero, List.set_cons_succ]))
      | (refine Lex.quiet (v := ?_) (by rfl) (by rfl) ?_ ?_; rotate_left; (focus (intro w' hS'; go_simp; try rfl)); (try simp only [Act.put, List.setIfInBounds_toArray, List.set_cons_zero, List.set_cons_succ])))
    refine Lex.loud (by rfl) (by rfl) ?_
    intro K' hK'
    go_simp
    refine HEQ.out.mono ?_
    rintro e w6 ⟨rfl, r6⟩
    have R6 := Lib.hid (R5.out.trans r6)
    clear r6
    refine hK' _ _ (HS.out _ R6.out) ?_
    clear hK'
    try simp only [Act.put, List.setIfInBounds_toArray, List.set_cons_zero, List.set_cons_succ]
    repeat (first
      | (refine Lex.skips (by rfl) ?_; (try simp only [Act.put, List.setIfInBounds_toArray, List.set_cons_zero, List.set_cons_succ]))
      | (refine Lex.quiet (v := ?_) (by rfl) (by rfl) ?_ ?_; rotate_left; (focus (intro w' hS'; go_simp; try rfl)); (try simp only [Act.put, List.setIfInBounds_toArray, List.set_cons_zero, List.set_cons_succ])))
    refine Lex.done ?_
    refine Lex.ends ?_
    go_wp2_with fail
    go_ret
    exact ⟨by rw [HF.out]; rfl, R2.out.trans R6.out⟩

end Go.Proofs.YtihnkijeefkefaaGreat

/- kit's SameModule. -/
namespace Go.Proofs.YtihnkijeefkefaaGreat
open Go.RowKit

attribute [local go_sem] Program.isFuncB Program.isSliceB

variable {w w' w'' w0 : World}

theorem Tryz.infoFunc : (Tryz.prog.info? 41).map (·.size) = some 4 := by kernel_rfl
end Go.Proofs.YtihnkijeefkefaaGreat

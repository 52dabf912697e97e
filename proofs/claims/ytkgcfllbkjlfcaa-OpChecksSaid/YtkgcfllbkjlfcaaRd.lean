/- What an argument reads as, whatever its type (integers, booleans, strings, slices, structs, one in another): read out of the reader's own recursion, kept while old blocks stay. Over any program. -/
import Derived.Test.YtkgcfllbkjlfcaaArgs
import Derived.DataShut
namespace Go

inductive Dt where
  | num (n : Int)
  | bit (b : Bool)
  | str (s : ByteArray)
  | row (l : List Dt)
  | agg (l : List Dt)
  | other
  deriving Inhabited

def Rd (P : Program) (w : World) : Nat → TypeId → List Value → Dt → Prop
  | 0, _, _, _ => False
  | n + 1, t, cs, d =>
    match P.underlying t with
    | some .bool => ∃ b, cs = [.bool b] ∧ d = .bit b
    | some (.int k) => ∃ z, cs = [.int k z] ∧ d = .num z ∧ (Lit.int k z).wf = true
    | some .string => ∃ s, cs = [.string s] ∧ d = .str s ∧ s.size ≤ maxLen
    | some (.slice e) => ∃ l sa cap, d = .row l ∧ cs = [.slice sa l.length cap] ∧ l.length ≤ cap ∧ cap ≤ maxLen ∧ (sa = none → cap = 0) ∧
        ∀ i (h : i < l.length), ∃ a es, sa = some a ∧ w.cells? 0 (a.add (i * P.cellsOf e)) (P.cellsOf e) = some es ∧ Rd P w n e es l[i]
    | some (.struct fs) => ∃ l, d = .agg l ∧ cs.length = P.cellsOf t ∧ l.length = fs.size ∧
        ∀ i f (h : i < l.length), fs[i]? = some f → Rd P w n f.type ((cs.drop f.offset).take (P.cellsOf f.type)) l[i]
    | _ => True

/-- a list out of its places -/
theorem list_of_each {α : Type} {n : Nat} {p : Nat → α → Prop} (h : ∀ i, i < n → ∃ y, p i y) : ∃ L : List α, L.length = n ∧ ∀ i (hi : i < L.length), p i L[i] := by
  induction n with
  | zero => exact ⟨[], rfl, fun i hi => by simp at hi⟩
  | succ n ih =>
    obtain ⟨L, h1, h2⟩ := ih (fun i hi => h i (by omega))
    obtain ⟨y, hy⟩ := h n (by omega)
    refine ⟨L ++ [y], by simp [h1], fun i hi => ?_⟩
    rcases Nat.lt_or_ge i L.length with h3 | h3
    · rw [List.getElem_append_left h3]; exact h2 i h3
    · have : i = n := by simp at hi; omega
      subst this
      rw [List.getElem_append_right h3]
      simpa [h1] using hy

open Go.Deep in
theorem Rd.of_trod {H : Type} {enc : TypeId × Value → H} {P : Program} {w : World} {held : Bool} : ∀ (n : Nat) (t : TypeId) (cs : List Value) (x : DataW H × List MemPlace),
    DataW.trod enc P w 0 (fun _ => true) held n t cs = some x → ∃ d, Rd P w n t cs d
  | 0, t, cs, x, h => by simp [DataW.trod] at h
  | n + 1, t, cs, x, h => by
    unfold Rd
    split
    · rename_i ht
      obtain ⟨b, rfl, _⟩ := DataW.trod_bool ht h
      exact ⟨_, b, rfl, rfl⟩
    · rename_i k ht
      obtain ⟨z, rfl, _, hw⟩ := DataW.trod_int ht h
      exact ⟨_, z, rfl, rfl, hw⟩
    · rename_i ht
      obtain ⟨s, rfl, _, hs⟩ := DataW.trod_string ht h
      exact ⟨_, s, rfl, rfl, hs⟩
    · rename_i e ht
      rcases DataW.trod_slice ht h with ⟨rfl, _⟩ | ⟨a, len, cap, elems, rest, m, hn, rfl, _, _, hl, hm, hlen, hel, _, _⟩
      · exact ⟨.row [], [], none, 0, rfl, rfl, Nat.le_refl _, Nat.zero_le _, fun _ => rfl, fun i hi => by simp at hi⟩
      · obtain rfl : n = m := by omega
        have hd : ∀ i, i < len → ∃ d, ∃ es, w.cells? 0 (a.add (i * P.cellsOf e)) (P.cellsOf e) = some es ∧ Rd P w n e es d := by
          intro i hi
          have h1 := hel i hi
          rw [List.getElem?_eq_getElem (by omega)] at h1
          obtain ⟨es, h2, h3⟩ := Option.bind_eq_some_iff.1 h1
          obtain ⟨d, hd⟩ := Rd.of_trod n e es _ h3
          exact ⟨d, es, h2, hd⟩
        obtain ⟨L, hL, hp⟩ := list_of_each hd
        refine ⟨.row L, L, some a, cap, rfl, by rw [hL], by omega, hm, (fun h => by cases h), fun i hi => ?_⟩
        obtain ⟨es, h1, h2⟩ := hp i hi
        exact ⟨a, es, rfl, h1, h2⟩
    · rename_i fs ht
      obtain ⟨xs, m, hn, _, hl, hxs, hf⟩ := DataW.trod_struct ht h
      obtain rfl : n = m := by omega
      have hd : ∀ i, i < fs.size → ∃ d, ∀ f, fs[i]? = some f → Rd P w n f.type ((cs.drop f.offset).take (P.cellsOf f.type)) d := by
        intro i hi
        have h1 := hf i fs[i] (Array.getElem?_eq_getElem hi)
        rw [List.getElem?_eq_getElem (by omega)] at h1
        obtain ⟨d, hd⟩ := Rd.of_trod n _ _ _ h1
        refine ⟨d, fun f hf => ?_⟩
        rw [Array.getElem?_eq_getElem hi] at hf
        cases hf
        exact hd
      obtain ⟨L, hL, hp⟩ := list_of_each hd
      exact ⟨.agg L, L, rfl, hl, hL, fun i f h hf => hp i h f hf⟩
    · exact ⟨.other, trivial⟩

theorem cells_at {w : World} {base : Nat} {a : Addr} {n : Nat} {cs : List Value} (h : w.cells? base a n = some cs) : cs.length = n ∧ ∀ i, i < n → w.cell? (a.add i) = cs[i]? := by
  obtain ⟨_, h1, h2⟩ := World.cells?_some h
  exact ⟨h1, h2⟩

theorem Rd.fr {S : Nat → Prop} {P : Program} {w w' : World} (hf : Fr S w w') (hS : ∀ k, S k → w.heap.size ≤ k) : ∀ (n : Nat) (t : TypeId) (cs : List Value) (d : Dt), Rd P w n t cs d → Rd P w' n t cs d
  | 0, t, cs, x, h => h
  | n + 1, t, cs, x, h => by
    unfold Rd at h ⊢
    split
    · rename_i ht; rw [ht] at h; exact h
    · rename_i ht; rw [ht] at h; exact h
    · rename_i ht; rw [ht] at h; exact h
    · rename_i e ht
      rw [ht] at h
      obtain ⟨l, sa, cap, h1, h2, h3, h4, h5, h6⟩ := h
      refine ⟨l, sa, cap, h1, h2, h3, h4, h5, fun i hi => ?_⟩
      obtain ⟨a, es, h7, h8, h9⟩ := h6 i hi
      refine ⟨a, es, h7, ?_, Rd.fr hf hS n e es _ h9⟩
      obtain ⟨q1, q2⟩ := cells_at h8
      refine World.cells?_of_each (Nat.zero_le _) q1 fun j hj => ?_
      have h10 := q2 j hj
      rw [List.getElem?_eq_getElem (by omega)] at h10 ⊢
      refine hf.cell h10 fun hs => ?_
      have := hS _ hs
      have := World.block_lt_of_cell? _ _ h10
      omega
    · rename_i fs ht
      rw [ht] at h
      obtain ⟨l, h1, h2, h3, h4⟩ := h
      exact ⟨l, h1, h2, h3, fun i f hi hf' => Rd.fr hf hS n _ _ _ (h4 i f hi hf')⟩
    · trivial

section
variable {P : Program} {w : World} {n : Nat} {t e : TypeId} {cs : List Value} {d : Dt}
theorem Rd.pos (h : Rd P w n t cs d) : ∃ m, n = m + 1 := by
  cases n with
  | zero => exact h.elim
  | succ m => exact ⟨m, rfl⟩
theorem Rd.int {k : IntKind} (ht : P.underlying t = some (.int k)) (h : Rd P w n t cs d) : ∃ z, cs = [.int k z] ∧ d = .num z ∧ (Lit.int k z).wf = true := by
  obtain ⟨m, rfl⟩ := h.pos
  unfold Rd at h; rw [ht] at h; exact h
theorem Rd.bool (ht : P.underlying t = some .bool) (h : Rd P w n t cs d) : ∃ b, cs = [.bool b] ∧ d = .bit b := by
  obtain ⟨m, rfl⟩ := h.pos
  unfold Rd at h; rw [ht] at h; exact h
theorem Rd.string (ht : P.underlying t = some .string) (h : Rd P w n t cs d) : ∃ s, cs = [.string s] ∧ d = .str s ∧ s.size ≤ maxLen := by
  obtain ⟨m, rfl⟩ := h.pos
  unfold Rd at h; rw [ht] at h; exact h
theorem Rd.slice (ht : P.underlying t = some (.slice e)) (h : Rd P w n t cs d) : ∃ l sa cap, d = .row l ∧ cs = [.slice sa l.length cap] ∧ l.length ≤ cap ∧ cap ≤ maxLen ∧ (sa = none → cap = 0) ∧
        ∀ i (h : i < l.length), ∃ a es, sa = some a ∧ w.cells? 0 (a.add (i * P.cellsOf e)) (P.cellsOf e) = some es ∧ Rd P w (n - 1) e es l[i] := by
  obtain ⟨m, rfl⟩ := h.pos
  unfold Rd at h; rw [ht] at h; exact h
theorem Rd.struct {fs : Array Field} (ht : P.underlying t = some (.struct fs)) (h : Rd P w n t cs d) : ∃ l, d = .agg l ∧ cs.length = P.cellsOf t ∧ l.length = fs.size ∧
        ∀ i f (h : i < l.length), fs[i]? = some f → Rd P w (n - 1) f.type ((cs.drop f.offset).take (P.cellsOf f.type)) l[i] := by
  obtain ⟨m, rfl⟩ := h.pos
  unfold Rd at h; rw [ht] at h; exact h
theorem arg_nat {H : Type} {enc : TypeId × Value → H} {W : World} {base : Nat} {v : Value} {d : DataW H} {p : List MemPlace} (ht : P.underlying t = some (.int .u64)) (hk : Value.okWide P W .any base t v) (h : DataW.Trod enc P W 0 (fun _ => true) true t v d p) :
    ∃ n : Nat, v = .int .u64 n ∧ n < 18446744073709551616 := by
  obtain ⟨n, rfl, hw⟩ := RowKit.arg_int ht hk h
  have h1 : IntKind.u64.min ≤ n ∧ n ≤ IntKind.u64.max := by simpa [Lit.wf] using hw
  have h2 : IntKind.u64.min = 0 := by decide
  have h3 : IntKind.u64.max = 18446744073709551615 := by decide
  have : 0 ≤ n ∧ n < 18446744073709551616 := by omega
  exact ⟨n.toNat, by rw [Int.toNat_of_nonneg this.1], by omega⟩
theorem arg_row {H : Type} {enc : TypeId × Value → H} {W : World} {base : Nat} {v : Value} {d : DataW H} {p : List MemPlace} (ht : P.underlying t = some (.slice e)) (hk : Value.okWide P W .any base t v) (h : DataW.Trod enc P W 0 (fun _ => true) true t v d p) :
    ∃ n d, Rd P W n t [v] d := by
  obtain ⟨a, len, cap, rfl⟩ := WideShapes.okWide_slice ht hk
  obtain ⟨fuel, hf⟩ := h
  obtain ⟨d, hd⟩ := Rd.of_trod fuel t _ _ hf
  exact ⟨fuel, d, by simpa [Value.cells] using hd⟩
theorem arg_agg {H : Type} {enc : TypeId × Value → H} {W : World} {base : Nat} {v : Value} {d : DataW H} {p : List MemPlace} {fs : Array Field} (ht : P.underlying t = some (.struct fs)) (hk : Value.okWide P W .any base t v) (h : DataW.Trod enc P W 0 (fun _ => true) true t v d p) :
    ∃ cs n d, v = .agg cs ∧ Rd P W n t cs.toList d := by
  obtain ⟨cs, rfl, _⟩ := WideShapes.okWide_struct ht hk
  obtain ⟨fuel, hf⟩ := h
  obtain ⟨d, hd⟩ := Rd.of_trod fuel t _ _ hf
  exact ⟨cs, fuel, d, rfl, by simpa [Value.cells] using hd⟩
theorem spot_none {a : Addr} {u : Value} (h : w.cell? a = some u) : a = ⟨a.block, a.off, none⟩ := by
  obtain ⟨b, o, sp⟩ := a
  cases sp with
  | none => rfl
  | some x =>
    exfalso
    unfold World.cell? at h
    split at h <;> simp at h
theorem len_two : ∀ (es : List Value), es.length = 2 → ∃ a b, es = [a, b]
  | [a, b], _ => ⟨a, b, rfl⟩
theorem len_three : ∀ (es : List Value), es.length = 3 → ∃ a b c, es = [a, b, c]
  | [a, b, c], _ => ⟨a, b, c, rfl⟩
/-- a row, by its block -/
theorem Rd.rows {z : Nat} (ht : P.underlying t = some (.slice e)) (hc : P.cellsOf e = z) (hz : 0 < z) (h : Rd P w n t cs d) :
    ∃ l sa cap, d = .row l ∧ cs = [.slice sa l.length cap] ∧ l.length ≤ cap ∧ cap ≤ maxLen ∧ (sa = none → cap = 0) ∧
      ∀ i (h : i < l.length), ∃ b o es, sa = some ⟨b, o, none⟩ ∧ es.length = z ∧ (∀ j u, es[j]? = some u → w.cell? ⟨b, o + i * z + j, none⟩ = some u) ∧ Rd P w (n - 1) e es l[i] := by
  obtain ⟨l, sa, cap, h0, h1, h2, h3, h4, h5⟩ := h.slice ht
  refine ⟨l, sa, cap, h0, h1, h2, h3, h4, fun i hi => ?_⟩
  subst hc
  obtain ⟨a0, es0, rfl, q1, _⟩ := h5 0 (by omega)
  obtain ⟨q2, q3⟩ := cells_at q1
  have q4 := q3 0 hz
  rw [List.getElem?_eq_getElem (by omega)] at q4
  have ea : a0 = ⟨a0.block, a0.off, none⟩ := by
    have := spot_none q4
    rwa [show (a0.add (0 * P.cellsOf e)).add 0 = a0 from by unfold Addr.add; simp] at this
  generalize a0.block = ab at ea
  generalize a0.off = ao at ea
  subst ea
  obtain ⟨a1, es, ha, q5, q6⟩ := h5 i hi
  obtain rfl := Option.some.inj ha
  obtain ⟨q7, q8⟩ := cells_at q5
  refine ⟨ab, ao, es, rfl, q7, fun j u hu => ?_, q6⟩
  have hj : j < P.cellsOf e := by rw [← q7]; exact (List.getElem?_eq_some_iff.1 hu).1
  have := q8 j hj
  rw [hu, Addr.add_lit, Addr.add_lit] at this
  exact this
/-- a struct, by its fields -/
theorem Rd.fields {fs : Array Field} {z : Nat} (ht : P.underlying t = some (.struct fs)) (hz : P.cellsOf t = z) (h : Rd P w n t cs d) :
    ∃ l, d = .agg l ∧ cs.length = z ∧ l.length = fs.size ∧ ∀ (i : Nat) (ty : TypeId) (off sz : Nat), (fs[i]?).map (fun (f : Field) => (f.type, f.offset)) = some (ty, off) → P.cellsOf ty = sz → ∃ di, l[i]? = some di ∧ Rd P w (n - 1) ty ((cs.drop off).take sz) di := by
  obtain ⟨l, h0, h1, h2, h3⟩ := h.struct ht
  refine ⟨l, h0, by rw [h1, hz], h2, fun i ty off sz hf hs => ?_⟩
  obtain ⟨f, hf1, hf2⟩ := Option.map_eq_some_iff.1 hf
  have hi : i < l.length := by rw [h2]; exact (Array.getElem?_eq_some_iff.1 hf1).1
  refine ⟨l[i], List.getElem?_eq_getElem hi, ?_⟩
  have := h3 i f hi hf1
  cases hf2
  rw [hs] at this
  exact this
/-- a row of integers -/
theorem Rd.reads {k : IntKind} (ht : P.underlying t = some (.slice e)) (he : P.underlying e = some (.int k)) (hc : P.cellsOf e = 1) {v : Value} (h : Rd P w n t [v] d) :
    ∃ zs : List Int, d = .row (zs.map .num) ∧ Reads w v 1 zs.length (zs.map (.int k)) ∧ (∀ z ∈ zs, (Lit.int k z).wf = true) ∧ zs.length ≤ maxLen := by
  obtain ⟨l, sa, cap, rfl, hcs, h1, h2, h3, h4⟩ := h.slice ht
  obtain rfl : v = .slice sa l.length cap := by simpa using hcs
  have hd : ∀ i, i < l.length → ∃ z : Int, l[i]? = some (.num z) ∧ (Lit.int k z).wf = true ∧ ∃ a, sa = some a ∧ w.cell? (a.add i) = some (.int k z) := by
    intro i hi
    obtain ⟨a, es, ha, h5, h6⟩ := h4 i hi
    obtain ⟨z, rfl, hz, hw⟩ := h6.int he
    rw [hc, Nat.mul_one] at h5
    obtain ⟨q1, q2⟩ := cells_at h5
    have := q2 0 (by omega)
    rw [show (a.add i).add 0 = a.add i from by unfold Addr.add; simp] at this
    exact ⟨z, by rw [List.getElem?_eq_getElem hi, hz], hw, a, ha, this⟩
  obtain ⟨zs, hl, hp⟩ := list_of_each hd
  refine ⟨zs, ?_, ?_, fun z hz => ?_, by omega⟩
  · congr 1
    apply List.ext_getElem (by simp [hl])
    intro i hi1 hi2
    have := (hp i (by simpa using hi2)).1
    rw [List.getElem?_eq_getElem hi1] at this
    simpa using this
  · cases sa with
    | none =>
      have h0 := h3 rfl
      have hl0 : l.length = 0 := by omega
      have hz0 : zs = [] := List.length_eq_zero_iff.1 (by omega)
      subst hz0
      rw [h0, hl0]
      exact .inl ⟨rfl, rfl, rfl⟩
    | some a =>
      refine .inr ⟨a, cap, by rw [hl], by omega, h2, by simp, fun j u hu => ?_⟩
      rw [List.getElem?_map] at hu
      obtain ⟨z, hz, rfl⟩ := Option.map_eq_some_iff.1 hu
      obtain ⟨hj, rfl⟩ := List.getElem?_eq_some_iff.1 hz
      obtain ⟨_, _, a', ha', hc'⟩ := hp j hj
      cases ha'
      exact hc'
  · obtain ⟨i, hi, rfl⟩ := List.getElem_of_mem hz
    exact (hp i hi).2.1
end
end Go

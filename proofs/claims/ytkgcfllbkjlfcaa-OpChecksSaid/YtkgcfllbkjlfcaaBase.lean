import Derived.Test.YtkgcfllbkjlfcaaRows
import Derived.WalkKit
import Derived.WalkSpells
import Derived.WalkLawsBesides
import Derived.BigQuiet
import Derived.Deep.QuietTactic
import Derived.Lib.Hide
import Derived.Laws.AppendOwnNone
import Derived.Laws.EntriesVeiled
namespace Go
section
variable {P : Program} {w : World}
def Program.isFuncB (P : Program) (t : TypeId) : Bool := match P.underlying t with | some (.func _ _ _) => true | _ => false
def Program.isSliceB (P : Program) (t : TypeId) : Bool := match P.underlying t with | some (.slice _) => true | _ => false
theorem run_equalIn_func_nil (d : Nat) (t : TypeId) (fn : Fn) (c e : Array Value) (h : P.isFuncB t = true) :
    (Op.equalIn (d + 1) t (.func fn c e) .nilFunc).run P w = .ok false w := by
  unfold Program.isFuncB at h
  split at h
  · rename_i h'; simp [Op.equalIn, run_underlying h']
  · cases h
@[go_sem] theorem run_eql_func_nil (t : TypeId) (fn : Fn) (c e : Array Value) (h : P.isFuncB t = true) :
    (binOp .eql t (.func fn c e) .nilFunc).run P w = .ok (.bool false) w := by
  simp only [binOp]
  simp [Op.equal, Op.maxDepth, run_equalIn_func_nil 9999 t fn c e h]
theorem run_equalIn_func_nil_nil (d : Nat) (t : TypeId) (h : P.isFuncB t = true) :
    (Op.equalIn (d + 1) t .nilFunc .nilFunc).run P w = .ok true w := by
  unfold Program.isFuncB at h
  split at h
  · rename_i h'; simp [Op.equalIn, run_underlying h']
  · cases h
@[go_sem] theorem run_eql_func_nil_nil (t : TypeId) (h : P.isFuncB t = true) :
    (binOp .eql t .nilFunc .nilFunc).run P w = .ok (.bool true) w := by
  simp only [binOp]
  simp [Op.equal, Op.maxDepth, run_equalIn_func_nil_nil 9999 t h]
@[go_sem] theorem run_eql_slice_nilG (t : TypeId) (a : Option Addr) (n c n' c' : Nat) (h : P.isSliceB t = true) :
    (binOp .eql t (.slice a n c) (.slice none n' c')).run P w = .ok (.bool a.isNone) w := by
  unfold Program.isSliceB at h
  split at h
  · rename_i h'; exact Lib.run_eql_slice_nil w t _ a n c n' c' h'
  · cases h
end

/-- no block; these blocks; these blocks and all from B on -/
def no : Nat → Prop := fun _ => False
def only (l : List Nat) : Nat → Prop := fun k => k ∈ l
def onlyFrom (l : List Nat) (B : Nat) : Nat → Prop := fun k => k ∈ l ∨ B ≤ k
@[simp] theorem no_iff (k : Nat) : no k ↔ False := Iff.rfl
@[simp] theorem only_iff (l : List Nat) (k : Nat) : only l k ↔ k ∈ l := Iff.rfl
@[simp] theorem onlyFrom_iff (l : List Nat) (B k : Nat) : onlyFrom l B k ↔ k ∈ l ∨ B ≤ k := Iff.rfl

/-- The worlds' relation: only blocks of S may have turned, of those that were there. -/
structure Fr (S : Nat → Prop) (w w' : World) : Prop where
  os : w'.os = w.os
  tape : w'.tape = w.tape
  output : w'.output = w.output
  size : w.heap.size ≤ w'.heap.size
  block : ∀ k, k < w.heap.size → ¬ S k → w'.heap[k]? = w.heap[k]?

section
variable {S T : Nat → Prop} {w w' w'' : World}
theorem Fr.refl (S : Nat → Prop) (w : World) : Fr S w w := ⟨rfl, rfl, rfl, Nat.le_refl _, fun _ _ _ => rfl⟩
theorem Fr.trans (h : Fr S w w') (k : Fr S w' w'') : Fr S w w'' :=
  ⟨k.os.trans h.os, k.tape.trans h.tape, k.output.trans h.output, Nat.le_trans h.size k.size,
   fun i hi hs => (k.block i (Nat.lt_of_lt_of_le hi h.size) hs).trans (h.block i hi hs)⟩
theorem Fr.mono (h : Fr S w w') (hs : ∀ k, S k → k < w.heap.size → T k) : Fr T w w' :=
  ⟨h.os, h.tape, h.output, h.size, fun i hi ht => h.block i hi (fun m => ht (hs i m hi))⟩
theorem Fr.drewN (h : Fr S w w') (n : Nat) : Fr S w (w'.drewN n) := ⟨h.os, h.tape, h.output, h.size, h.block⟩
theorem Fr.drew (h : Fr S w w') : Fr S w w'.drew := ⟨h.os, h.tape, h.output, h.size, h.block⟩
theorem Fr.alloc (h : Fr S w w') (o : Obj) : Fr S w (w'.alloc o) :=
  h.trans ⟨rfl, rfl, rfl, by simp, fun k hk _ => RowKit.Below.heap_alloc _ _ _ hk⟩
theorem Fr.setCell (h : Fr S w w') (a : Addr) (v : Value) (ha : S a.block ∨ w.heap.size ≤ a.block) : Fr S w (w'.setCell a v) :=
  ⟨h.os, h.tape, h.output, by simp [h.size], fun k hk hs => by
    rw [RowKit.Below.heap_setCell _ _ _ _ (fun e => by rcases ha with m | m; exact hs (e ▸ m); omega)]
    exact h.block k hk hs⟩
theorem Fr.grown {row : Option Nat} (h : Fr S w w') (hg : w'.grownBy w'' row) (hr : ∀ k, row = some k → S k ∨ w.heap.size ≤ k) : Fr S w w'' :=
  ⟨hg.os.trans h.os, hg.tape.trans h.tape, hg.output.trans h.output, Nat.le_trans h.size hg.size,
   fun k hk hs => (hg.block k (Nat.lt_of_lt_of_le hk h.size) (fun e => by rcases hr k e.symm with m | m; exact hs m; omega)).trans (h.block k hk hs)⟩
theorem Fr.below (h : Fr S w w') {B : Nat} (hB : B ≤ w.heap.size) (hs : ∀ k, S k → B ≤ k) : RowKit.Below B w w' :=
  ⟨h.os, h.tape, h.output, h.size, fun k hk => h.block k (by omega) (fun m => by have := hs k m; omega)⟩
theorem Fr.of_below (h : RowKit.Below w.heap.size w w') : Fr S w w' := ⟨h.os, h.tape, h.output, h.size, fun k hk _ => h.block k hk⟩
theorem Fr.trans' (h : Fr S w w') (k : Fr T w' w'') (hs : ∀ i, T i → ¬ S i → w.heap.size ≤ i) : Fr S w w'' :=
  ⟨k.os.trans h.os, k.tape.trans h.tape, k.output.trans h.output, Nat.le_trans h.size k.size,
   fun i hi ht => (k.block i (Nat.lt_of_lt_of_le hi h.size) (fun m => by have := hs i m ht; omega)).trans (h.block i hi ht)⟩
theorem Fr.to (h : Fr no w w') : Fr T w w' := h.mono (fun _ h => h.elim)
theorem Fr.cell (h : Fr S w w') {p : Addr} {v : Value} (hc : w.cell? p = some v) (hp : ¬ S p.block) : w'.cell? p = some v :=
  (World.cell?_of_block (h.block p.block (World.block_lt_of_cell? w p hc) hp)).trans hc
theorem Fr.heap (h : Fr S w w') {b : Nat} {o : Obj} (hc : w.heap[b]? = some o) (hp : ¬ S b) : w'.heap[b]? = some o := by
  rw [h.block b ((Array.getElem?_eq_some_iff.1 hc).1) hp]; exact hc
end

theorem heap_new (w : World) (o : Obj) : (w.alloc o).heap[w.heap.size]? = some o := by
  show (w.heap.push o)[w.heap.size]? = _
  simp
theorem heap_new2 (w : World) (o o' : Obj) : ((w.alloc o).alloc o').heap[w.heap.size]? = some o := by
  rw [RowKit.Below.heap_alloc _ _ _ (by simp)]; exact heap_new w o
theorem heap_new2' (w : World) (o o' : Obj) : ((w.alloc o).alloc o').heap[w.heap.size + 1]? = some o' := by
  have := heap_new (w.alloc o) o'
  rwa [World.size_alloc] at this
theorem cell_of_heap {w : World} {b o : Nat} {c : Array Value} {t : TypeId} {z : Nat × Nat} {v : Value} (h : w.heap[b]? = some (.cells c t z)) (hc : c[o]? = some v) : w.cell? ⟨b, o, none⟩ = some v := by
  simp [World.cell?, h, hc]
theorem frozen_of_heap {w : World} {b o : Nat} {c : Array Value} {t : TypeId} (h : w.heap[b]? = some (.cells c t (0, 0))) : w.frozen? ⟨b, o, none⟩ = false := by
  simp [World.frozen?, h]

/-- A slice value that reads as these cells: n elements of size cells each. -/
def Reads (w : World) (v : Value) (size n : Nat) (cs : List Value) : Prop :=
  (v = .slice none 0 0 ∧ n = 0 ∧ cs = []) ∨
    ∃ a cap, v = .slice (some a) n cap ∧ n ≤ cap ∧ cap ≤ maxLen ∧ cs.length = n * size ∧ ∀ j u, cs[j]? = some u → w.cell? (a.add j) = some u

theorem Reads.fr {S : Nat → Prop} {w w' : World} {v : Value} {size n : Nat} {cs : List Value} (h : Reads w v size n cs) (hf : Fr S w w') (hs : ∀ k, v.ownBlock = some k → ¬ S k) : Reads w' v size n cs := by
  rcases h with h | ⟨a, cap, rfl, h1, h2, h3, h4⟩
  · exact .inl h
  · refine .inr ⟨a, cap, rfl, h1, h2, h3, fun j u hu => ?_⟩
    have hb : (a.add j).block = a.block := by unfold Addr.add; split <;> rfl
    exact hf.cell (h4 j u hu) (by rw [hb]; exact hs a.block rfl)

theorem Reads.len {w : World} {v : Value} {size n : Nat} {cs : List Value} (h : Reads w v size n cs) : cs.length = n * size := by
  rcases h with ⟨_, rfl, rfl⟩ | ⟨a, cap, rfl, h1, h2, h3, h4⟩
  · simp
  · exact h3

theorem Reads.shape {w : World} {v : Value} {size n : Nat} {cs : List Value} (h : Reads w v size n cs) : ∃ a c, v = .slice a n c := by
  rcases h with ⟨rfl, rfl, _⟩ | ⟨a, cap, rfl, _⟩
  · exact ⟨_, _, rfl⟩
  · exact ⟨_, _, rfl⟩

theorem owns_reads {w : World} {base : Nat} {e : TypeId} {size : Nat} {v : Value} {n : Nat} {xs : List Value} (h : w.ownsRow base e size v n xs) : Reads w v size n xs := by
  rcases h.2 with ⟨rfl, h0⟩ | ⟨g, cap, cur, rfl, hb, hg, h1, h2, h3, h4⟩
  · refine .inl ⟨rfl, h0, ?_⟩
    have := h.1
    rw [h0] at this
    simpa using this
  · exact .inr ⟨_, cap, rfl, h1, h2, h.1, h.cells rfl⟩

theorem owns_fr {S : Nat → Prop} {w w' : World} {B : Nat} {e : TypeId} {z : Nat} {v : Value} {n : Nat} {xs : List Value} (h : w.ownsRow B e z v n xs) (hf : Fr S w w') (hs : ∀ k, v.ownBlock = some k → ¬ S k) : w'.ownsRow B e z v n xs := by
  refine ⟨h.1, ?_⟩
  rcases h.2 with hn | ⟨g, cap, cur, rfl, hb, hgg, rest⟩
  · exact .inl hn
  · exact .inr ⟨g, cap, cur, rfl, hb, hf.heap hgg (hs g rfl), rest⟩

theorem owns_shape {w : World} {base : Nat} {e : TypeId} {size : Nat} {v : Value} {n : Nat} {xs : List Value} (h : w.ownsRow base e size v n xs) : ∃ a c, v = .slice a n c := (owns_reads h).shape

theorem owns_new (w : World) (e : TypeId) (size : Nat) : (w.alloc (.cells #[] e)).ownsRow w.heap.size e size (.slice (some ⟨w.heap.size, 0, none⟩) 0 0) 0 [] :=
  World.ownsRow_made w #[] 0 (Nat.le_refl _) (by simp [maxLen]) (by simp)

/-- append onto a row of the call's own, whatever readable source. -/
theorem wpList_append_any {P : Program} {w : World} {ops : Array Oper} {rest : List Oper} {o : Oper} {a : Act} {Q : Exit → Act → World → Prop} (hgd : o.guard = none) (s x : Operand) (t : TypeId)
    (ho : o.op = .call { callee := .builtin .append, args := #[s, x], argTypes := #[t, t] })
    (base : Nat) (e : TypeId) (z : Value) (size bytes : Nat) (ht : P.underlying t = some (.slice e)) (hi : (P.info? e).map (fun i => (i.zero, i.size, i.bytes)) = some (some z, size, bytes))
    (hzs : z.cells.size = size) (hsz : 0 < size)
    (v : Value) (n : Nat) (xs : List Value) (hs : a.eval s = v) (hown : w.ownsRow base e size v n xs)
    (m : Nat) (news : List Value) (hr : Reads w (a.eval x) size m news) (h1 : ∀ u ∈ news, u.oneCell' = true)
    (h63 : n + m ≤ maxLen) (hbytes : (n + m) * bytes ≤ 140737488355328) (hbase : base ≤ w.heap.size)
    (h : ∀ a' c' w', w'.ownsRow base e size (.slice a' (n + m) c') (n + m) (xs ++ news) → w.grownBy w' v.ownBlock → wpList P ops Q rest (a.put o.dst (.slice a' (n + m) c')) w') : wpList P ops Q (o :: rest) a w := by
  obtain ⟨i0, hi, hz0, hz1, hz2⟩ := info_parts hi
  rcases hr with ⟨hx, rfl, rfl⟩ | ⟨ad, cap, hx, _, _, hl, hc⟩
  · obtain ⟨a', c', hv⟩ := owns_shape hown
    refine wpList_append_own_none hgd s x t ho base e i0 size ht hi v n xs hs hown hx ?_
    have := h a' c' w (by simpa [← hv] using hown) (World.grownBy.refl w _)
    rw [hv]; exact this
  · refine wpList_append_own w hgd s x t ho base e i0 z size bytes ht hi hz0 hz1 hz2 hzs hsz v n xs hs hown ad m cap news hx hl hc h1 h63 hbytes hbase ?_
    intro v' w' h2 h3 _
    obtain ⟨a', c', hv⟩ := owns_shape h2
    subst hv
    exact h a' c' w' h2 h3
theorem Fr.frozen {S : Nat → Prop} {w w' : World} (h : Fr S w w') {p : Addr} (hp : ¬ S p.block) (hl : p.block < w.heap.size) : w'.frozen? p = w.frozen? p :=
  World.frozen?_of_block (h.block p.block hl hp)
theorem int_one {k : IntKind} {n : Int} : ∀ u ∈ [Value.int k n], u.oneCell' = true := by
  intro u hu; simp only [List.mem_singleton] at hu; subst hu; rfl
theorem reads_one (w : World) (v : Value) (e : TypeId) : Reads (w.alloc (.cells #[v] e)) (.slice (some ⟨w.heap.size, 0, none⟩) 1 1) 1 1 [v] := by
  refine .inr ⟨_, 1, rfl, Nat.le_refl _, by unfold maxLen; omega, rfl, fun j u hu => ?_⟩
  match j, hu with
  | 0, hu => cases hu; rw [Addr.add_lit]; exact World.cell?_alloc_new _ _ _ _

theorem Reads.at1 {w : World} {sa : Option Addr} {n c k : Nat} {cs : List Value} {u : Value} (h : Reads w (.slice sa n c) 1 n cs) (hk : cs[k]? = some u) :
    ∃ b o, sa = some ⟨b, o, none⟩ ∧ w.cell? ⟨b, o + k, none⟩ = some u := by
  rcases h with ⟨_, _, rfl⟩ | ⟨a, cap, hv, h1, h2, h3, h4⟩
  · simp at hk
  · cases hv
    have h0 : ∃ u0, cs[0]? = some u0 := by
      cases cs with
      | nil => simp at hk
      | cons x l => exact ⟨x, rfl⟩
    obtain ⟨u0, h0⟩ := h0
    have h5 := h4 0 u0 h0
    have h6 := h4 k u hk
    obtain ⟨b, o, sp⟩ := a
    cases sp with
    | none => rw [Addr.add_lit] at h6; exact ⟨b, o, rfl, h6⟩
    | some x =>
      exfalso
      rw [show (Addr.add ⟨b, o, some x⟩ 0) = ⟨b, o, some x⟩ from rfl] at h5
      unfold World.cell? at h5
      split at h5 <;> simp at h5

theorem madeCells_one (z : Value) (n : Nat) (hz : z.cells = #[z]) : (madeCells z.cells (n * 1)).toList = List.replicate n z := by
  rw [hz]
  apply List.ext_getElem
  · simp [madeCells]
  · intro i h1 h2
    simp [madeCells, Nat.mod_one]

/-- make of a known or computed length, elements of one cell. -/
theorem wpList_make_any {P : Program} {w : World} {ops : Array Oper} {rest : List Oper} {o : Oper} {a : Act} {Q : Exit → Act → World → Prop}
    (hg : o.guard = none) (l c : Operand) (t : TypeId) (hop : o.op = Op.makeSlice t l c)
    (base : Nat) (e : TypeId) (z : Value) (bytes : Nat) (h1 : P.underlying t = some (.slice e)) (hi : (P.info? e).map (fun i => (i.zero, i.size, i.bytes)) = some (some z, 1, bytes)) (hz : z.cells = #[z])
    (kl kc : IntKind) (L C : Int) (n : Nat) (hl : a.eval l = .int kl L) (hc : a.eval c = .int kc C) (hL : L = (n : Int)) (hC : C = (n : Int)) (b2 : bytes * n ≤ 281474976710656) (b3 : n ≤ maxLen) (b4 : base ≤ w.heap.size)
    (hK : ∀ w', w'.ownsRow base e 1 (.slice (some ⟨w.heap.size, 0, none⟩) n n) n (List.replicate n z) → w.grownBy w' none → wpList P ops Q rest (a.put o.dst (.slice (some ⟨w.heap.size, 0, none⟩) n n)) w') :
    wpList P ops Q (o :: rest) a w := by
  obtain ⟨i0, hi, hz0, hz1, hz2⟩ := info_parts hi
  refine wpList_make_full w hg l c t hop base e i0 z 1 h1 hi hz0 hz1 kl kc L C n hl hc hL hC (by rw [hz2]; exact b2) b3 b4 ?_
  intro w' h2 h3
  rw [madeCells_one z n hz] at h2
  exact hK w' h2 h3

theorem heap_setCell {w : World} {b o : Nat} {c : Array Value} {t : TypeId} {v : Value} (h : w.heap[b]? = some (.cells c t (0, 0))) :
    (w.setCell ⟨b, o, none⟩ v).heap[b]? = some (.cells (c.setIfInBounds o v) t (0, 0)) := by
  simp [World.setCell, Array.getElem?_modify, h]
theorem owns_base {w : World} {base base' : Nat} {e : TypeId} {size : Nat} {v : Value} {n : Nat} {xs : List Value} (h : w.ownsRow base e size v n xs) (hb : ∀ k, v.ownBlock = some k → base' ≤ k) : w.ownsRow base' e size v n xs := by
  refine ⟨h.1, ?_⟩
  rcases h.2 with h | ⟨g, cap, cur, rfl, h2, h3⟩
  · exact .inl h
  · exact .inr ⟨g, cap, cur, rfl, hb g rfl, h3⟩

/-- where the row lies behind an append: where it lay, or in a new block -/
theorem run_append_where {P : Program} (w : World) (base : Nat) (t ty e : TypeId) (i : TypeInfo) (z : Value) (size bytes : Nat) (ht : P.underlying t = some (.slice e)) (hi : P.info? e = some i) (hz : i.zero = some z)
    (hsize : i.size = size) (hby : i.bytes = bytes) (hzs : z.cells.size = size) (hsz : 0 < size)
    (v : Value) (n : Nat) (xs : List Value) (hown : w.ownsRow base e size v n xs)
    (a : Addr) (m c : Nat) (news : List Value) (hl : news.length = m * size) (hnews : ∀ j u, news[j]? = some u → w.cell? (a.add j) = some u) (h1 : ∀ u ∈ news, u.oneCell' = true)
    (h63 : n + m ≤ maxLen) (hbytes : (n + m) * bytes ≤ 140737488355328) (hbase : base ≤ w.heap.size) :
    ∃ v' w', (Builtin.append_ #[t, t] ty #[v, .slice (some a) m c]).run P w = .ok v' w' ∧ w'.ownsRow base e size v' (n + m) (xs ++ news) ∧ w.grownBy w' v.ownBlock ∧
      (v'.ownBlock = v.ownBlock ∨ v'.ownBlock = some w.heap.size) := by
  obtain ⟨v', w', hrun, ho, hg, hnil⟩ := run_append_own (P := P) w base t ty e i z size bytes ht hi hz hsize hby hzs hsz v n xs hown a m c news hl hnews h1 h63 hbytes hbase
  refine ⟨v', w', hrun, ho, hg, ?_⟩
  have h63' : n + m ≤ 9223372036854775807 := by simpa [maxLen] using h63
  rcases hown.2 with ⟨rfl, rfl⟩ | ⟨g, cap, cur, rfl, hb, hh, h2, h3, h4, h5⟩
  · by_cases hm : m = 0
    · left
      rw [hnil.2 ⟨rfl, hm⟩]
    · right
      have := run_append_nil (P := P) w t ty e i z ht hi hz a m c news (by rw [hl, hsize]) hnews (by omega) (by omega) (by rw [hby]; simp at hbytes; omega)
      rw [this] at hrun
      cases hrun
      rfl
  · by_cases hroom : n + m ≤ cap
    · left
      have hfit : n * i.size + news.length ≤ cur.size := by
        rw [hl, h4, hsize, ← Nat.add_mul]
        exact Nat.mul_le_mul_right _ hroom
      have := run_append_room (P := P) w t ty e i ht hi g n cap cur hh a m c news (by rw [hl, hsize]) hnews h1 hroom hfit
      rw [this] at hrun
      cases hrun
      rfl
    · right
      have := run_append_grow (P := P) w t ty e i z ht hi hz ⟨g, 0, none⟩ n cap xs (by rw [hown.1, hsize]) (hown.cells rfl) a m c news (by rw [hl, hsize]) hnews (by omega) (by omega)
        (growslice_fits (by omega) (by rw [hby]; exact hbytes))
      rw [this] at hrun
      cases hrun
      rfl

/-- append onto a row of the call's own, whatever readable source; it tells where the row lies then. -/
theorem wpList_append_at {P : Program} {w : World} {ops : Array Oper} {rest : List Oper} {o : Oper} {a : Act} {Q : Exit → Act → World → Prop} (hgd : o.guard = none) (s x : Operand) (t : TypeId)
    (ho : o.op = .call { callee := .builtin .append, args := #[s, x], argTypes := #[t, t] })
    (base : Nat) (e : TypeId) (z : Value) (size bytes : Nat) (ht : P.underlying t = some (.slice e)) (hi : (P.info? e).map (fun i => (i.zero, i.size, i.bytes)) = some (some z, size, bytes))
    (hzs : z.cells.size = size) (hsz : 0 < size)
    (v : Value) (n : Nat) (xs : List Value) (hs : a.eval s = v) (hown : w.ownsRow base e size v n xs)
    (m : Nat) (news : List Value) (hr : Reads w (a.eval x) size m news) (h1 : ∀ u ∈ news, u.oneCell' = true)
    (h63 : n + m ≤ maxLen) (hbytes : (n + m) * bytes ≤ 140737488355328) (hbase : base ≤ w.heap.size)
    (h : ∀ a' c' w', w'.ownsRow base e size (.slice a' (n + m) c') (n + m) (xs ++ news) → w.grownBy w' v.ownBlock →
      (∀ k, (Value.slice a' (n + m) c').ownBlock = some k → v.ownBlock = some k ∨ k = w.heap.size) → wpList P ops Q rest (a.put o.dst (.slice a' (n + m) c')) w') : wpList P ops Q (o :: rest) a w := by
  obtain ⟨i0, hi, hz0, hz1, hz2⟩ := info_parts hi
  rcases hr with ⟨hx, rfl, rfl⟩ | ⟨ad, cap, hx, _, _, hl, hc⟩
  · obtain ⟨a', c', hv⟩ := owns_shape hown
    refine wpList_append_own_none hgd s x t ho base e i0 size ht hi v n xs hs hown hx ?_
    have := h a' c' w (by simpa [← hv] using hown) (World.grownBy.refl w _) (fun k hk => .inl (by rw [hv]; exact hk))
    rw [hv]; exact this
  · obtain ⟨v', w', hrun, h2, h3, h4⟩ := run_append_where (P := P) w base t o.type e i0 z size bytes ht hi hz0 hz1 hz2 hzs hsz v n xs hown ad m cap news hl hc h1 h63 hbytes hbase
    refine wpList_plain hgd fun K hK => ?_
    obtain ⟨a', c', hv⟩ := owns_shape h2
    subst hv
    have hk := h a' c' w' h2 h3 (fun k hk => by
      rcases h4 with h4 | h4
      · exact .inl (h4 ▸ hk)
      · rw [h4] at hk; exact .inr (Option.some.inj hk).symm)
    unfold Oper.wp
    simp [execOp, ho, resolve, invoke, builtin, hs, hx, hrun, Result.andThen]
    exact hK _ _ hk
end Go

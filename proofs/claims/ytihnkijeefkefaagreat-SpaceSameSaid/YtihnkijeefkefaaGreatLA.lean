import Derived.Test.YtihnkijeefkefaaGreatRows
import Derived.WalkKit
import Derived.WalkSpells
import Derived.WalkLawsBesides
import Derived.BigQuiet
import Derived.Deep.QuietTactic
import Derived.Lib.Hide
import Derived.Laws.AppendOwnNone
import Derived.Laws.EntriesVeiled
import Derived.Still
import Derived.Deep.Draws
import Derived.ProofKit
import Derived.SizedLaws
import Derived.Deep.Grids
import Derived.DataShut
import Derived.Laws.Strings
import Derived.Laws.Rows
import Derived.Laws.Tables
import Derived.Orders
set_option linter.unusedSimpArgs false
set_option linter.unusedVariables false
set_option linter.unusedSectionVars false
set_option linter.unnecessarySimpa false
set_option maxRecDepth 100000
namespace Go
section
variable {P : Program} {w : World}
def Program.isFuncB (P : Program) (t : TypeId) : Bool := match P.underlying t with | some (.func _ _ _) => true | _ => false
def Program.isSliceB (P : Program) (t : TypeId) : Bool := match P.underlying t with | some (.slice _) => true | _ => false
theorem run_equalIn_func_nil (d : Nat) (t : TypeId) (fn : Fn) (c e : Array Value) (h : P.isFuncB t = true) :
    (Op.equalIn (d + 1) t (.func fn c e) .nilFunc).run P w = .ok false w := by
  unfold Program.isFuncB at h
  split at h
  · rename_i h'; simp [Op.equalIn, run_underlying h']
  · cases h
@[go_sem] theorem run_eql_func_nil (t : TypeId) (fn : Fn) (c e : Array Value) (h : P.isFuncB t = true) :
    (binOp .eql t (.func fn c e) .nilFunc).run P w = .ok (.bool false) w := by
  simp only [binOp]
  simp [Op.equal, Op.maxDepth, run_equalIn_func_nil 9999 t fn c e h]
theorem run_equalIn_func_nil_nil (d : Nat) (t : TypeId) (h : P.isFuncB t = true) :
    (Op.equalIn (d + 1) t .nilFunc .nilFunc).run P w = .ok true w := by
  unfold Program.isFuncB at h
  split at h
  · rename_i h'; simp [Op.equalIn, run_underlying h']
  · cases h
@[go_sem] theorem run_eql_func_nil_nil (t : TypeId) (h : P.isFuncB t = true) :
    (binOp .eql t .nilFunc .nilFunc).run P w = .ok (.bool true) w := by
  simp only [binOp]
  simp [Op.equal, Op.maxDepth, run_equalIn_func_nil_nil 9999 t h]
@[go_sem] theorem run_eql_slice_nilG (t : TypeId) (a : Option Addr) (n c n' c' : Nat) (h : P.isSliceB t = true) :
    (binOp .eql t (.slice a n c) (.slice none n' c')).run P w = .ok (.bool a.isNone) w := by
  unfold Program.isSliceB at h
  split at h
  · rename_i h'; exact Lib.run_eql_slice_nil w t _ a n c n' c' h'
  · cases h
end

/-- no block; these blocks; these blocks and all from B on -/
def no : Nat → Prop := fun _ => False
def only (l : List Nat) : Nat → Prop := fun k => k ∈ l
def onlyFrom (l : List Nat) (B : Nat) : Nat → Prop := fun k => k ∈ l ∨ B ≤ k
@[simp] theorem no_iff (k : Nat) : no k ↔ False := Iff.rfl
@[simp] theorem only_iff (l : List Nat) (k : Nat) : only l k ↔ k ∈ l := Iff.rfl
@[simp] theorem onlyFrom_iff (l : List Nat) (B k : Nat) : onlyFrom l B k ↔ k ∈ l ∨ B ≤ k := Iff.rfl

/-- The worlds' relation: only blocks of S may have turned, of those that were there. -/
structure Fr (S : Nat → Prop) (w w' : World) : Prop where
  os : w'.os = w.os
  tape : w'.tape = w.tape
  output : w'.output = w.output
  size : w.heap.size ≤ w'.heap.size
  block : ∀ k, k < w.heap.size → ¬ S k → w'.heap[k]? = w.heap[k]?

section
variable {S T : Nat → Prop} {w w' w'' : World}
theorem Fr.refl (S : Nat → Prop) (w : World) : Fr S w w := ⟨rfl, rfl, rfl, Nat.le_refl _, fun _ _ _ => rfl⟩
theorem Fr.trans (h : Fr S w w') (k : Fr S w' w'') : Fr S w w'' :=
  ⟨k.os.trans h.os, k.tape.trans h.tape, k.output.trans h.output, Nat.le_trans h.size k.size,
   fun i hi hs => (k.block i (Nat.lt_of_lt_of_le hi h.size) hs).trans (h.block i hi hs)⟩
theorem Fr.mono (h : Fr S w w') (hs : ∀ k, S k → k < w.heap.size → T k) : Fr T w w' :=
  ⟨h.os, h.tape, h.output, h.size, fun i hi ht => h.block i hi (fun m => ht (hs i m hi))⟩
theorem Fr.drewN (h : Fr S w w') (n : Nat) : Fr S w (w'.drewN n) := ⟨h.os, h.tape, h.output, h.size, h.block⟩
theorem Fr.drew (h : Fr S w w') : Fr S w w'.drew := ⟨h.os, h.tape, h.output, h.size, h.block⟩
theorem Fr.alloc (h : Fr S w w') (o : Obj) : Fr S w (w'.alloc o) :=
  h.trans ⟨rfl, rfl, rfl, by simp, fun k hk _ => RowKit.Below.heap_alloc _ _ _ hk⟩
theorem Fr.setCell (h : Fr S w w') (a : Addr) (v : Value) (ha : S a.block ∨ w.heap.size ≤ a.block) : Fr S w (w'.setCell a v) :=
  ⟨h.os, h.tape, h.output, by simp [h.size], fun k hk hs => by
    rw [RowKit.Below.heap_setCell _ _ _ _ (fun e => by rcases ha with m | m; exact hs (e ▸ m); omega)]
    exact h.block k hk hs⟩
theorem Fr.grown {row : Option Nat} (h : Fr S w w') (hg : w'.grownBy w'' row) (hr : ∀ k, row = some k → S k ∨ w.heap.size ≤ k) : Fr S w w'' :=
  ⟨hg.os.trans h.os, hg.tape.trans h.tape, hg.output.trans h.output, Nat.le_trans h.size hg.size,
   fun k hk hs => (hg.block k (Nat.lt_of_lt_of_le hk h.size) (fun e => by rcases hr k e.symm with m | m; exact hs m; omega)).trans (h.block k hk hs)⟩
theorem Fr.below (h : Fr S w w') {B : Nat} (hB : B ≤ w.heap.size) (hs : ∀ k, S k → B ≤ k) : RowKit.Below B w w' :=
  ⟨h.os, h.tape, h.output, h.size, fun k hk => h.block k (by omega) (fun m => by have := hs k m; omega)⟩
theorem Fr.of_below (h : RowKit.Below w.heap.size w w') : Fr S w w' := ⟨h.os, h.tape, h.output, h.size, fun k hk _ => h.block k hk⟩
theorem Fr.trans' (h : Fr S w w') (k : Fr T w' w'') (hs : ∀ i, T i → ¬ S i → w.heap.size ≤ i) : Fr S w w'' :=
  ⟨k.os.trans h.os, k.tape.trans h.tape, k.output.trans h.output, Nat.le_trans h.size k.size,
   fun i hi ht => (k.block i (Nat.lt_of_lt_of_le hi h.size) (fun m => by have := hs i m ht; omega)).trans (h.block i hi ht)⟩
theorem Fr.to (h : Fr no w w') : Fr T w w' := h.mono (fun _ h => h.elim)
theorem Fr.cell (h : Fr S w w') {p : Addr} {v : Value} (hc : w.cell? p = some v) (hp : ¬ S p.block) : w'.cell? p = some v :=
  (World.cell?_of_block (h.block p.block (World.block_lt_of_cell? w p hc) hp)).trans hc
theorem Fr.heap (h : Fr S w w') {b : Nat} {o : Obj} (hc : w.heap[b]? = some o) (hp : ¬ S b) : w'.heap[b]? = some o := by
  rw [h.block b ((Array.getElem?_eq_some_iff.1 hc).1) hp]; exact hc
end

theorem heap_new (w : World) (o : Obj) : (w.alloc o).heap[w.heap.size]? = some o := by
  show (w.heap.push o)[w.heap.size]? = _
  simp
theorem heap_new2 (w : World) (o o' : Obj) : ((w.alloc o).alloc o').heap[w.heap.size]? = some o := by
  rw [RowKit.Below.heap_alloc _ _ _ (by simp)]; exact heap_new w o
theorem heap_new2' (w : World) (o o' : Obj) : ((w.alloc o).alloc o').heap[w.heap.size + 1]? = some o' := by
  have := heap_new (w.alloc o) o'
  rwa [World.size_alloc] at this
theorem cell_of_heap {w : World} {b o : Nat} {c : Array Value} {t : TypeId} {z : Nat × Nat} {v : Value} (h : w.heap[b]? = some (.cells c t z)) (hc : c[o]? = some v) : w.cell? ⟨b, o, none⟩ = some v := by
  simp [World.cell?, h, hc]
theorem frozen_of_heap {w : World} {b o : Nat} {c : Array Value} {t : TypeId} (h : w.heap[b]? = some (.cells c t (0, 0))) : w.frozen? ⟨b, o, none⟩ = false := by
  simp [World.frozen?, h]

/-- A slice value that reads as these cells: n elements of size cells each. -/
def Reads (w : World) (v : Value) (size n : Nat) (cs : List Value) : Prop :=
  (v = .slice none 0 0 ∧ n = 0 ∧ cs = []) ∨
    ∃ a cap, v = .slice (some a) n cap ∧ n ≤ cap ∧ cap ≤ maxLen ∧ cs.length = n * size ∧ ∀ j u, cs[j]? = some u → w.cell? (a.add j) = some u

theorem Reads.fr {S : Nat → Prop} {w w' : World} {v : Value} {size n : Nat} {cs : List Value} (h : Reads w v size n cs) (hf : Fr S w w') (hs : ∀ k, v.ownBlock = some k → ¬ S k) : Reads w' v size n cs := by
  rcases h with h | ⟨a, cap, rfl, h1, h2, h3, h4⟩
  · exact .inl h
  · refine .inr ⟨a, cap, rfl, h1, h2, h3, fun j u hu => ?_⟩
    have hb : (a.add j).block = a.block := by unfold Addr.add; split <;> rfl
    exact hf.cell (h4 j u hu) (by rw [hb]; exact hs a.block rfl)

theorem Reads.shape {w : World} {v : Value} {size n : Nat} {cs : List Value} (h : Reads w v size n cs) : ∃ a c, v = .slice a n c := by
  rcases h with ⟨rfl, rfl, _⟩ | ⟨a, cap, rfl, _⟩
  · exact ⟨_, _, rfl⟩
  · exact ⟨_, _, rfl⟩

theorem owns_reads {w : World} {base : Nat} {e : TypeId} {size : Nat} {v : Value} {n : Nat} {xs : List Value} (h : w.ownsRow base e size v n xs) : Reads w v size n xs := by
  rcases h.2 with ⟨rfl, h0⟩ | ⟨g, cap, cur, rfl, hb, hg, h1, h2, h3, h4⟩
  · refine .inl ⟨rfl, h0, ?_⟩
    have := h.1
    rw [h0] at this
    simpa using this
  · exact .inr ⟨_, cap, rfl, h1, h2, h.1, h.cells rfl⟩

theorem owns_fr {S : Nat → Prop} {w w' : World} {B : Nat} {e : TypeId} {z : Nat} {v : Value} {n : Nat} {xs : List Value} (h : w.ownsRow B e z v n xs) (hf : Fr S w w') (hs : ∀ k, v.ownBlock = some k → ¬ S k) : w'.ownsRow B e z v n xs := by
  refine ⟨h.1, ?_⟩
  rcases h.2 with hn | ⟨g, cap, cur, rfl, hb, hgg, rest⟩
  · exact .inl hn
  · exact .inr ⟨g, cap, cur, rfl, hb, hf.heap hgg (hs g rfl), rest⟩

theorem owns_shape {w : World} {base : Nat} {e : TypeId} {size : Nat} {v : Value} {n : Nat} {xs : List Value} (h : w.ownsRow base e size v n xs) : ∃ a c, v = .slice a n c := (owns_reads h).shape

theorem owns_new (w : World) (e : TypeId) (size : Nat) : (w.alloc (.cells #[] e)).ownsRow w.heap.size e size (.slice (some ⟨w.heap.size, 0, none⟩) 0 0) 0 [] :=
  World.ownsRow_made w #[] 0 (Nat.le_refl _) (by simp [maxLen]) (by simp)

theorem int_one {k : IntKind} {n : Int} : ∀ u ∈ [Value.int k n], u.oneCell' = true := by
  intro u hu; simp only [List.mem_singleton] at hu; subst hu; rfl
theorem reads_one (w : World) (v : Value) (e : TypeId) : Reads (w.alloc (.cells #[v] e)) (.slice (some ⟨w.heap.size, 0, none⟩) 1 1) 1 1 [v] := by
  refine .inr ⟨_, 1, rfl, Nat.le_refl _, by unfold maxLen; omega, rfl, fun j u hu => ?_⟩
  match j, hu with
  | 0, hu => cases hu; rw [Addr.add_lit]; exact World.cell?_alloc_new _ _ _ _

theorem Reads.at1 {w : World} {sa : Option Addr} {n c k : Nat} {cs : List Value} {u : Value} (h : Reads w (.slice sa n c) 1 n cs) (hk : cs[k]? = some u) :
    ∃ b o, sa = some ⟨b, o, none⟩ ∧ w.cell? ⟨b, o + k, none⟩ = some u := by
  rcases h with ⟨_, _, rfl⟩ | ⟨a, cap, hv, h1, h2, h3, h4⟩
  · simp at hk
  · cases hv
    have h0 : ∃ u0, cs[0]? = some u0 := by
      cases cs with
      | nil => simp at hk
      | cons x l => exact ⟨x, rfl⟩
    obtain ⟨u0, h0⟩ := h0
    have h5 := h4 0 u0 h0
    have h6 := h4 k u hk
    obtain ⟨b, o, sp⟩ := a
    cases sp with
    | none => rw [Addr.add_lit] at h6; exact ⟨b, o, rfl, h6⟩
    | some x =>
      exfalso
      rw [show (Addr.add ⟨b, o, some x⟩ 0) = ⟨b, o, some x⟩ from rfl] at h5
      unfold World.cell? at h5
      split at h5 <;> simp at h5

theorem madeCells_one (z : Value) (n : Nat) (hz : z.cells = #[z]) : (madeCells z.cells (n * 1)).toList = List.replicate n z := by
  rw [hz]
  apply List.ext_getElem
  · simp [madeCells]
  · intro i h1 h2
    simp [madeCells, Nat.mod_one]

/-- make of a known or computed length, elements of one cell. -/
theorem wpList_make_any {P : Program} {w : World} {ops : Array Oper} {rest : List Oper} {o : Oper} {a : Act} {Q : Exit → Act → World → Prop}
    (hg : o.guard = none) (l c : Operand) (t : TypeId) (hop : o.op = Op.makeSlice t l c)
    (base : Nat) (e : TypeId) (z : Value) (bytes : Nat) (h1 : P.underlying t = some (.slice e)) (hi : (P.info? e).map (fun i => (i.zero, i.size, i.bytes)) = some (some z, 1, bytes)) (hz : z.cells = #[z])
    (kl kc : IntKind) (L C : Int) (n : Nat) (hl : a.eval l = .int kl L) (hc : a.eval c = .int kc C) (hL : L = (n : Int)) (hC : C = (n : Int)) (b2 : bytes * n ≤ 281474976710656) (b3 : n ≤ maxLen) (b4 : base ≤ w.heap.size)
    (hK : ∀ w', w'.ownsRow base e 1 (.slice (some ⟨w.heap.size, 0, none⟩) n n) n (List.replicate n z) → w.grownBy w' none → wpList P ops Q rest (a.put o.dst (.slice (some ⟨w.heap.size, 0, none⟩) n n)) w') :
    wpList P ops Q (o :: rest) a w := by
  obtain ⟨i0, hi, hz0, hz1, hz2⟩ := info_parts hi
  refine wpList_make_full w hg l c t hop base e i0 z 1 h1 hi hz0 hz1 kl kc L C n hl hc hL hC (by rw [hz2]; exact b2) b3 b4 ?_
  intro w' h2 h3
  rw [madeCells_one z n hz] at h2
  exact hK w' h2 h3

theorem heap_setCell {w : World} {b o : Nat} {c : Array Value} {t : TypeId} {v : Value} (h : w.heap[b]? = some (.cells c t (0, 0))) :
    (w.setCell ⟨b, o, none⟩ v).heap[b]? = some (.cells (c.setIfInBounds o v) t (0, 0)) := by
  simp [World.setCell, Array.getElem?_modify, h]
theorem owns_base {w : World} {base base' : Nat} {e : TypeId} {size : Nat} {v : Value} {n : Nat} {xs : List Value} (h : w.ownsRow base e size v n xs) (hb : ∀ k, v.ownBlock = some k → base' ≤ k) : w.ownsRow base' e size v n xs := by
  refine ⟨h.1, ?_⟩
  rcases h.2 with h | ⟨g, cap, cur, rfl, h2, h3⟩
  · exact .inl h
  · exact .inr ⟨g, cap, cur, rfl, hb g rfl, h3⟩

/-- where the row lies behind an append: where it lay, or in a new block -/
theorem run_append_where {P : Program} (w : World) (base : Nat) (t ty e : TypeId) (i : TypeInfo) (z : Value) (size bytes : Nat) (ht : P.underlying t = some (.slice e)) (hi : P.info? e = some i) (hz : i.zero = some z)
    (hsize : i.size = size) (hby : i.bytes = bytes) (hzs : z.cells.size = size) (hsz : 0 < size)
    (v : Value) (n : Nat) (xs : List Value) (hown : w.ownsRow base e size v n xs)
    (a : Addr) (m c : Nat) (news : List Value) (hl : news.length = m * size) (hnews : ∀ j u, news[j]? = some u → w.cell? (a.add j) = some u) (h1 : ∀ u ∈ news, u.oneCell' = true)
    (h63 : n + m ≤ maxLen) (hbytes : (n + m) * bytes ≤ 140737488355328) (hbase : base ≤ w.heap.size) :
    ∃ v' w', (Builtin.append_ #[t, t] ty #[v, .slice (some a) m c]).run P w = .ok v' w' ∧ w'.ownsRow base e size v' (n + m) (xs ++ news) ∧ w.grownBy w' v.ownBlock ∧
      (v'.ownBlock = v.ownBlock ∨ v'.ownBlock = some w.heap.size) := by
  obtain ⟨v', w', hrun, ho, hg, hnil⟩ := run_append_own (P := P) w base t ty e i z size bytes ht hi hz hsize hby hzs hsz v n xs hown a m c news hl hnews h1 h63 hbytes hbase
  refine ⟨v', w', hrun, ho, hg, ?_⟩
  have h63' : n + m ≤ 9223372036854775807 := by simpa [maxLen] using h63
  rcases hown.2 with ⟨rfl, rfl⟩ | ⟨g, cap, cur, rfl, hb, hh, h2, h3, h4, h5⟩
  · by_cases hm : m = 0
    · left
      rw [hnil.2 ⟨rfl, hm⟩]
    · right
      have := run_append_nil (P := P) w t ty e i z ht hi hz a m c news (by rw [hl, hsize]) hnews (by omega) (by omega) (by rw [hby]; simp at hbytes; omega)
      rw [this] at hrun
      cases hrun
      rfl
  · by_cases hroom : n + m ≤ cap
    · left
      have hfit : n * i.size + news.length ≤ cur.size := by
        rw [hl, h4, hsize, ← Nat.add_mul]
        exact Nat.mul_le_mul_right _ hroom
      have := run_append_room (P := P) w t ty e i ht hi g n cap cur hh a m c news (by rw [hl, hsize]) hnews h1 hroom hfit
      rw [this] at hrun
      cases hrun
      rfl
    · right
      have := run_append_grow (P := P) w t ty e i z ht hi hz ⟨g, 0, none⟩ n cap xs (by rw [hown.1, hsize]) (hown.cells rfl) a m c news (by rw [hl, hsize]) hnews (by omega) (by omega)
        (growslice_fits (by omega) (by rw [hby]; exact hbytes))
      rw [this] at hrun
      cases hrun
      rfl

/-- append onto a row of the call's own, whatever readable source; it tells where the row lies then. -/
theorem wpList_append_at {P : Program} {w : World} {ops : Array Oper} {rest : List Oper} {o : Oper} {a : Act} {Q : Exit → Act → World → Prop} (hgd : o.guard = none) (s x : Operand) (t : TypeId)
    (ho : o.op = .call { callee := .builtin .append, args := #[s, x], argTypes := #[t, t] })
    (base : Nat) (e : TypeId) (z : Value) (size bytes : Nat) (ht : P.underlying t = some (.slice e)) (hi : (P.info? e).map (fun i => (i.zero, i.size, i.bytes)) = some (some z, size, bytes))
    (hzs : z.cells.size = size) (hsz : 0 < size)
    (v : Value) (n : Nat) (xs : List Value) (hs : a.eval s = v) (hown : w.ownsRow base e size v n xs)
    (m : Nat) (news : List Value) (hr : Reads w (a.eval x) size m news) (h1 : ∀ u ∈ news, u.oneCell' = true)
    (h63 : n + m ≤ maxLen) (hbytes : (n + m) * bytes ≤ 140737488355328) (hbase : base ≤ w.heap.size)
    (h : ∀ a' c' w', w'.ownsRow base e size (.slice a' (n + m) c') (n + m) (xs ++ news) → w.grownBy w' v.ownBlock →
      (∀ k, (Value.slice a' (n + m) c').ownBlock = some k → v.ownBlock = some k ∨ k = w.heap.size) → wpList P ops Q rest (a.put o.dst (.slice a' (n + m) c')) w') : wpList P ops Q (o :: rest) a w := by
  obtain ⟨i0, hi, hz0, hz1, hz2⟩ := info_parts hi
  rcases hr with ⟨hx, rfl, rfl⟩ | ⟨ad, cap, hx, _, _, hl, hc⟩
  · obtain ⟨a', c', hv⟩ := owns_shape hown
    refine wpList_append_own_none hgd s x t ho base e i0 size ht hi v n xs hs hown hx ?_
    have := h a' c' w (by simpa [← hv] using hown) (World.grownBy.refl w _) (fun k hk => .inl (by rw [hv]; exact hk))
    rw [hv]; exact this
  · obtain ⟨v', w', hrun, h2, h3, h4⟩ := run_append_where (P := P) w base t o.type e i0 z size bytes ht hi hz0 hz1 hz2 hzs hsz v n xs hown ad m cap news hl hc h1 h63 hbytes hbase
    refine wpList_plain hgd fun K hK => ?_
    obtain ⟨a', c', hv⟩ := owns_shape h2
    subst hv
    have hk := h a' c' w' h2 h3 (fun k hk => by
      rcases h4 with h4 | h4
      · exact .inl (h4 ▸ hk)
      · rw [h4] at hk; exact .inr (Option.some.inj hk).symm)
    unfold Oper.wp
    simp [execOp, ho, resolve, invoke, builtin, hs, hx, hrun, Result.andThen]
    exact hK _ _ hk
end Go

/- A region that draws its order, walked once in the order of its text: operations that yield one value in every world of a class S, and loud ones (calls, appends, stores) that are ordered among themselves. Phases: behind a phase's last operation a new class may be chosen. Over any program. -/
namespace Go.Lex
variable {P : Program} {ops : Array Oper} {md : Region.Mode}

def NoExit : Exit → Act → World → Prop := fun _ _ _ => False

def Quiet (P : Program) (S : World → Prop) (o : Oper) (a : Act) (v : Value) : Prop := ∀ w, S w → (execOp a.eval o).run P w = .ok (.value v) w

/-- it yields v in every world of S, or is not wanted -/
def Yields (P : Program) (ops : Array Oper) (S : World → Prop) (o : Oper) (a : Act) (v : Value) : Prop :=
  (Region.wanted o (yielded ops a.tmps) = true ∧ Quiet P S o a v) ∨ (Region.wanted o (yielded ops a.tmps) = false ∧ v = undef)

def walk (P : Program) (ops : Array Oper) (L : List Nat) (S : World → Prop) (K : Act → World → Prop) : List Nat → Act → World → Prop
  | [], a, w => K a w
  | i :: l, a, w => ∃ o, ops[i]? = some o ∧
      if L.contains i = true then
        (Region.wanted o (yielded ops a.tmps) = true → o.wp P a w (fun a' w' => S w' ∧ walk P ops L S K l a' w') NoExit) ∧
        (Region.wanted o (yielded ops a.tmps) = false → walk P ops L S K l (a.put o.dst undef) w)
      else ∃ v, Yields P ops S o a v ∧ walk P ops L S K l (a.put o.dst v) w

/-! ### one operation beside another one that is apart -/
theorem upon_to {o : Oper} {a : Act} {x : Option Tmp} {u : Value} {K K' : Act → World → Prop} {r : Result Next} (h : o.upon P a K NoExit r)
    (hk : ∀ (b : Act) (v : Value) (w' : World), b.tmps = a.tmps → K (b.put o.dst v) w' → K' ((b.put x u).put o.dst v) w') : o.upon P (a.put x u) K' NoExit r := by
  cases r with
  | ok n w' =>
    cases n <;> simp only [Oper.upon] at h ⊢ <;> first | exact h.elim | skip
    case value v => exact hk a v w' rfl h
    case skip => exact hk a undef w' rfl h
    case defer d =>
      have := hk { a with defers := d :: a.defers } undef w' rfl h
      cases x <;> exact this
    case enter f args =>
      refine h.mono fun e w'' he => ?_
      cases e with
      | returned v => exact hk a v w'' rfl he
      | panicked c => exact he.elim
      | outgrown => exact he
    case row row args => exact h.mono fun v w'' he => hk a v w'' rfl he
  | halt x' w' => cases x' <;> simp only [Oper.upon] at h ⊢ <;> exact h.elim

theorem upon_from {o : Oper} {a : Act} {x : Option Tmp} {u : Value} {K K' : Act → World → Prop} {r : Result Next} (h : o.upon P (a.put x u) K NoExit r)
    (hk : ∀ (b : Act) (v : Value) (w' : World), b.tmps = a.tmps → K ((b.put x u).put o.dst v) w' → K' (b.put o.dst v) w') : o.upon P a K' NoExit r := by
  cases r with
  | ok n w' =>
    cases n <;> simp only [Oper.upon] at h ⊢ <;> first | exact h.elim | skip
    case value v => exact hk a v w' rfl h
    case skip => exact hk a undef w' rfl h
    case defer d =>
      refine hk { a with defers := d :: a.defers } undef w' rfl ?_
      cases x <;> exact h
    case enter f args =>
      refine h.mono fun e w'' he => ?_
      cases e with
      | returned v => exact hk a v w'' rfl he
      | panicked c => exact he.elim
      | outgrown => exact he
    case row row args => exact h.mono fun v w'' he => hk a v w'' rfl he
  | halt x' w' => cases x' <;> simp only [Oper.upon] at h ⊢ <;> exact h.elim

theorem upon_is {o : Oper} {a : Act} {K : Act → World → Prop} {r : Result Next} (h : o.upon P a K NoExit r) : ∃ (b : Act) (v : Value) (w' : World), b.tmps = a.tmps ∧ K (b.put o.dst v) w' := by
  cases r with
  | ok n w' =>
    cases n <;> simp only [Oper.upon] at h <;> first | exact h.elim | skip
    case value v => exact ⟨a, v, w', rfl, h⟩
    case skip => exact ⟨a, undef, w', rfl, h⟩
    case defer d => exact ⟨{ a with defers := d :: a.defers }, undef, w', rfl, h⟩
    case enter f args =>
      obtain ⟨e, w'', _, he, _⟩ := h []
      cases e with
      | returned v => exact ⟨a, v, w'', rfl, he⟩
      | panicked c => exact he.elim
      | outgrown => obtain ⟨_, _, hf⟩ := he; exact hf.elim
    case row row args =>
      obtain ⟨v, w'', he, _⟩ := h default []
      exact ⟨a, v, w'', rfl, he⟩
  | halt x' w' => cases x' <;> simp only [Oper.upon] at h <;> exact h.elim

theorem upon_q {o : Oper} {a : Act} {K K' : Act → World → Prop} {Q : Exit → Act → World → Prop} {r : Result Next} (h : o.upon P a K NoExit r)
    (hk : ∀ a' w', K a' w' → K' a' w') : o.upon P a K' Q r := by
  cases r with
  | ok n w' =>
    cases n <;> simp only [Oper.upon] at h ⊢ <;> first | exact h.elim | skip
    case value v => exact hk _ _ h
    case skip => exact hk _ _ h
    case defer d => exact hk _ _ h
    case enter f args =>
      refine h.mono fun e w'' he => ?_
      cases e with
      | returned v => exact hk _ _ he
      | panicked c => exact he.elim
      | outgrown => obtain ⟨_, _, hf⟩ := he; exact hf.elim
    case row row args => exact h.mono fun v w'' he => hk _ _ he
  | halt x' w' => cases x' <;> simp only [Oper.upon] at h ⊢ <;> exact h.elim

theorem yields_unique {S : World → Prop} {o : Oper} {a : Act} {w : World} {v v' : Value} (hS : S w) (h : Yields P ops S o a v) (h' : Yields P ops S o a v') : v = v' := by
  rcases h with ⟨h1, h2⟩ | ⟨h1, h2⟩ <;> rcases h' with ⟨h3, h4⟩ | ⟨h3, h4⟩
  · have := (h2 w hS).symm.trans (h4 w hS)
    simpa using this
  · rw [h1] at h3; cases h3
  · rw [h1] at h3; cases h3
  · rw [h2, h4]

section
variable {S : World → Prop} {L : List Nat} {K : Act → World → Prop} (hsel : Region.noSelect ops = true)
include hsel

theorem yields_same {j : Nat} {oj : Oper} (hj : ops[j]? = some oj) {a b : Act} {x : Option Tmp} {u v : Value} (hb : b.tmps = (a.put x u).tmps) (hx : ∀ d, x = some d → d ∉ oj.looksAt ops) :
    Yields P ops S oj b v ↔ Yields P ops S oj a v := by
  have e0 : b.eval = (a.put x u).eval := by
    funext t; cases t <;> simp [Act.eval, hb]
  have e1 := execOp_put oj (Region.noSelect_spec hsel j oj · · hj) a x u hx
  have e2 := wanted_put oj a x u hx
  unfold Yields Quiet
  rw [hb, e0, e1, e2]

/-- an operation that is not loud may be taken out -/
theorem quiet_out {j : Nat} {oj : Oper} (hj : ops[j]? = some oj) (hL : L.contains j = false) : ∀ (l : List Nat) (a : Act) (w : World), S w → j ∈ l → l.Pairwise (· < ·) →
    (∀ h ∈ l, h < j → ∀ oh, ops[h]? = some oh → oh.apart ops oj = true) → walk P ops L S K l a w →
    ∃ v, Yields P ops S oj a v ∧ walk P ops L S K (l.erase j) (a.put oj.dst v) w := by
  intro l
  induction l with
  | nil => intro a w _ hm; cases hm
  | cons i l ih =>
    intro a w hS hm hp hap hw
    obtain ⟨oi, hi, hw⟩ := hw
    by_cases hij : i = j
    · subst hij
      obtain rfl : oi = oj := by rw [hi] at hj; exact Option.some.inj hj
      rw [if_neg (by rw [hL]; simp)] at hw
      rw [List.erase_cons_head]
      exact hw
    · have hjl : j ∈ l := by rcases List.mem_cons.1 hm with e | e; exact (hij e.symm).elim; exact e
      have hlt : i < j := (List.pairwise_cons.1 hp).1 j hjl
      obtain ⟨h1, h2, h3⟩ := Oper.apart_spec (hap i (List.mem_cons_self ..) hlt oi hi)
      have hp' := (List.pairwise_cons.1 hp).2
      have hap' : ∀ h ∈ l, h < j → ∀ oh, ops[h]? = some oh → oh.apart ops oj = true := fun h hh => hap h (List.mem_cons_of_mem _ hh)
      have her : (i :: l).erase j = i :: l.erase j := by rw [List.erase_cons_tail]; simpa using hij
      rw [her]
      by_cases hLi : L.contains i = true
      · rw [if_pos hLi] at hw
        obtain ⟨hw1, hw2⟩ := hw
        cases hwa : Region.wanted oi (yielded ops a.tmps) with
        | true =>
          have h := hw1 hwa
          obtain ⟨b, u, w', hb, hS', hwk⟩ := upon_is h
          obtain ⟨vj, hy, _⟩ := ih _ _ hS' hjl hp' hap' hwk
          have hbt : (b.put oi.dst u).tmps = (a.put oi.dst u).tmps := by cases hd : oi.dst <;> simp [Act.put, hb]
          have hya := (yields_same hsel hj hbt h1).1 hy
          refine ⟨vj, hya, oi, hi, ?_⟩
          rw [if_pos hLi]
          refine ⟨fun _ => ?_, fun hf => ?_⟩
          · unfold Oper.wp at h ⊢
            rw [execOp_put oi (Region.noSelect_spec hsel i oi · · hi) a oj.dst vj h3]
            refine upon_to h fun b v w'' hb hk => ?_
            obtain ⟨hS'', hwk⟩ := hk
            obtain ⟨v', hy', hwk'⟩ := ih _ _ hS'' hjl hp' hap' hwk
            have hbt : (b.put oi.dst v).tmps = (a.put oi.dst v).tmps := by cases hd : oi.dst <;> simp [Act.put, hb]
            have e := yields_unique hS'' ((yields_same hsel hj hbt h1).1 hy') hya
            subst e
            refine ⟨hS'', ?_⟩
            rw [← Act.put_comm b v v' h2]
            exact hwk'
          · rw [wanted_put oi a oj.dst vj h3, hwa] at hf; cases hf
        | false =>
          obtain ⟨vj, hy, hwk⟩ := ih _ _ hS hjl hp' hap' (hw2 hwa)
          have hya := (yields_same hsel hj rfl h1).1 hy
          refine ⟨vj, hya, oi, hi, ?_⟩
          rw [if_pos hLi]
          refine ⟨fun hf => ?_, fun _ => ?_⟩
          · rw [wanted_put oi a oj.dst vj h3, hwa] at hf; cases hf
          · rw [← Act.put_comm a undef vj h2]; exact hwk
      · rw [if_neg hLi] at hw
        obtain ⟨vi, hyi, hwk⟩ := hw
        obtain ⟨vj, hy, hwk'⟩ := ih _ _ hS hjl hp' hap' hwk
        have hya := (yields_same hsel hj rfl h1).1 hy
        refine ⟨vj, hya, oi, hi, ?_⟩
        rw [if_neg hLi]
        refine ⟨vi, (yields_same hsel hi rfl h3).2 hyi, ?_⟩
        rw [← Act.put_comm a vi vj h2]; exact hwk'

/-- the first loud operation may be taken out -/
theorem loud_out {j : Nat} {oj : Oper} (hj : ops[j]? = some oj) (hLj : L.contains j = true) : ∀ (l : List Nat) (a : Act) (w : World), S w → j ∈ l → l.Pairwise (· < ·) →
    (∀ h ∈ l, h < j → L.contains h = false ∧ ∀ oh, ops[h]? = some oh → oh.apart ops oj = true) → walk P ops L S K l a w →
    (Region.wanted oj (yielded ops a.tmps) = true → oj.wp P a w (fun a' w' => S w' ∧ walk P ops L S K (l.erase j) a' w') NoExit) ∧
    (Region.wanted oj (yielded ops a.tmps) = false → walk P ops L S K (l.erase j) (a.put oj.dst undef) w) := by
  intro l
  induction l with
  | nil => intro a w _ hm; cases hm
  | cons i l ih =>
    intro a w hS hm hp hap hw
    obtain ⟨oi, hi, hw⟩ := hw
    by_cases hij : i = j
    · subst hij
      obtain rfl : oi = oj := by rw [hi] at hj; exact Option.some.inj hj
      rw [if_pos hLj] at hw
      rw [List.erase_cons_head]
      exact hw
    · have hjl : j ∈ l := by rcases List.mem_cons.1 hm with e | e; exact (hij e.symm).elim; exact e
      have hlt : i < j := (List.pairwise_cons.1 hp).1 j hjl
      obtain ⟨hLi, hap0⟩ := hap i (List.mem_cons_self ..) hlt
      obtain ⟨h1, h2, h3⟩ := Oper.apart_spec (hap0 oi hi)
      have hp' := (List.pairwise_cons.1 hp).2
      have hap' : ∀ h ∈ l, h < j → L.contains h = false ∧ ∀ oh, ops[h]? = some oh → oh.apart ops oj = true := fun h hh => hap h (List.mem_cons_of_mem _ hh)
      have her : (i :: l).erase j = i :: l.erase j := by rw [List.erase_cons_tail]; simpa using hij
      rw [her]
      have hLi' : ¬ L.contains i = true := by rw [hLi]; simp
      rw [if_neg hLi'] at hw
      obtain ⟨vi, hyi, hwk⟩ := hw
      obtain ⟨q1, q2⟩ := ih _ _ hS hjl hp' hap' hwk
      rw [wanted_put oj a oi.dst vi h1] at q1 q2
      refine ⟨fun hwa => ?_, fun hwa => ?_⟩
      · have h := q1 hwa
        unfold Oper.wp at h ⊢
        rw [execOp_put oj (Region.noSelect_spec hsel j oj · · hj) a oi.dst vi h1] at h
        refine upon_from h fun b v w' hb hk => ?_
        obtain ⟨hS', hwk⟩ := hk
        refine ⟨hS', oi, hi, ?_⟩
        rw [if_neg hLi']
        have hbt : (b.put oj.dst v).tmps = (a.put oj.dst v).tmps := by cases hd : oj.dst <;> simp [Act.put, hb]
        refine ⟨vi, (yields_same hsel hi hbt h3).2 hyi, ?_⟩
        rw [← Act.put_comm b vi v h2]; exact hwk
      · refine ⟨oi, hi, ?_⟩
        rw [if_neg hLi']
        refine ⟨vi, (yields_same hsel hi rfl h3).2 hyi, ?_⟩
        rw [← Act.put_comm a vi undef h2]
        exact q2 hwa
end

/-! ### phases -/
def phases (P : Program) (ops : Array Oper) (L : List Nat) (Q : Exit → Act → World → Prop) : List (List Nat) → Act → World → Prop
  | [], a, w => Q .normal a w
  | l :: ls, a, w => ∃ S : World → Prop, S w ∧ walk P ops L S (phases P ops L Q ls) l a w

/-- j waits for h, over however many edges -/
inductive Anc (md : Region.Mode) (ops : Array Oper) : Nat → Nat → Prop
  | edge {j : Nat} {o : Oper} {e : Edge} (hj : ops[j]? = some o) (he : e ∈ o.after) (hb : Region.binds md e = true) : Anc md ops j e.on
  | more {j h : Nat} {o : Oper} {e : Edge} (hj : ops[j]? = some o) (he : e ∈ o.after) (hb : Region.binds md e = true) (r : Anc md ops e.on h) : Anc md ops j h

/-- what has come up has come up behind all that it waits for -/
def Closed (md : Region.Mode) (ops : Array Oper) (listed : Array Bool) : Prop :=
  ∀ j o, ops[j]? = some o → listed.getD j false = true → ∀ e ∈ o.after, Region.binds md e = true → listed.getD e.on false = true

theorem Closed.anc {listed : Array Bool} (hc : Closed md ops listed) {j h : Nat} (ha : Anc md ops j h) : listed.getD j false = true → listed.getD h false = true := by
  induction ha with
  | edge hj he hb => exact fun hl => hc _ _ hj hl _ he hb
  | more hj he hb _ ih => exact fun hl => ih (hc _ _ hj hl _ he hb)

theorem anc_listed {listed : Array Bool} (hc : Closed md ops listed) {j h : Nat} (ha : Anc md ops j h) (hr : j ∈ Region.ready md ops listed) : listed.getD h false = true := by
  obtain ⟨_, o, ho, hall⟩ := mem_ready.1 hr
  cases ha with
  | edge hj he hb => rw [ho] at hj; cases hj; exact hall _ he hb
  | more hj he hb r => rw [ho] at hj; cases hj; exact hc.anc r (hall _ he hb)

/-- what must hold of the region's text -/
structure Fits (md : Region.Mode) (ops : Array Oper) (L : List Nat) (ls : List (List Nat)) : Prop where
  sel : Region.noSelect ops = true
  back : ∀ j o, ops[j]? = some o → ∀ e ∈ o.after, Region.binds md e = true → e.on < j
  sorted : ∀ l ∈ ls, l.Pairwise (· < ·)
  apart : ∀ l ∈ ls, ∀ h ∈ l, ∀ j ∈ l, h < j → ∀ oh oj, ops[h]? = some oh → ops[j]? = some oj → (∃ e ∈ oj.after, Region.binds md e = true ∧ e.on = h) ∨ oh.apart ops oj = true
  loud : ∀ l ∈ ls, ∀ h ∈ l, ∀ j ∈ l, h < j → L.contains h = true → L.contains j = true → Anc md ops j h
  parts : ls.Pairwise fun l l' => ∀ h ∈ l, ∀ j ∈ l', Anc md ops j h

theorem Closed.set {listed : Array Bool} (hc : Closed md ops listed) {i : Nat} (hr : i ∈ Region.ready md ops listed) : Closed md ops (listed.setIfInBounds i true) := by
  intro j o hj hl e he hb
  by_cases hij : i = j
  · subst hij
    obtain ⟨_, o', ho, hall⟩ := mem_ready.1 hr
    rw [ho] at hj; cases hj
    exact getD_set_true (hall e he hb)
  · rw [getD_set_ne false hij] at hl
    exact getD_set_true (hc j o hj hl e he hb)

theorem anyOrder {L : List Nat} {Q : Exit → Act → World → Prop} : ∀ (n : Nat) (ls : List (List Nat)) (l : List Nat) (fuel : Nat) (listed : Array Bool) (a : Act) (w : World) (S : World → Prop),
    (l :: ls).length + fuel ≤ n → listed.size = ops.size → Fits md ops L (l :: ls) → Closed md ops listed →
    (∀ i, i < ops.size → (listed.getD i true = false ↔ i ∈ l ∨ ∃ l' ∈ ls, i ∈ l')) → (∀ i, (i ∈ l ∨ ∃ l' ∈ ls, i ∈ l') → i < ops.size) → l.length + ls.flatten.length ≤ fuel →
    S w → walk P ops L S (phases P ops L Q ls) l a w → wpAny P md ops Q fuel listed a w := by
  intro n
  induction n with
  | zero => intro ls l fuel listed a w S hn; simp at hn
  | succ n ih =>
    intro ls l fuel listed a w S hn hsz hF hc hun hin hfu hS hw
    cases l with
    | nil =>
      cases ls with
      | nil =>
        have hno : Region.ready md ops listed = [] := by
          rw [List.eq_nil_iff_forall_not_mem]
          intro i hi
          obtain ⟨h0, o, ho, _⟩ := mem_ready.1 hi
          have := (hun i (Array.getElem?_eq_some_iff.1 ho).1).1 h0
          simp at this
        have hq : Q .normal a w := hw
        cases fuel with
        | zero => exact ⟨hno, hq⟩
        | succ fuel => exact ⟨fun _ => hq, fun i hi => by rw [hno] at hi; cases hi⟩
      | cons l' ls =>
        obtain ⟨S', hS', hw'⟩ := hw
        refine ih ls l' fuel listed a w S' (by simp at hn ⊢; omega) hsz ?_ hc ?_ ?_ (by simpa using hfu) hS' hw'
        · exact ⟨hF.sel, hF.back, fun l hl => hF.sorted l (List.mem_cons_of_mem _ hl), fun l hl => hF.apart l (List.mem_cons_of_mem _ hl),
            fun l hl => hF.loud l (List.mem_cons_of_mem _ hl), (List.pairwise_cons.1 hF.parts).2⟩
        · intro i hi; rw [hun i hi]; simp
        · intro i hi; exact hin i (by simpa using hi)
    | cons i0 l0 =>
      generalize hl0 : i0 :: l0 = l at *
      have hl : l ≠ [] := by rw [← hl0]; simp
      cases fuel with
      | zero => rw [← hl0] at hfu; simp at hfu
      | succ fuel =>
        have hmem : ∀ i, i ∈ Region.ready md ops listed → i ∈ l := by
          intro i hi
          obtain ⟨h0, o, ho, _⟩ := mem_ready.1 hi
          rcases (hun i (Array.getElem?_eq_some_iff.1 ho).1).1 h0 with h | ⟨l', hl', h⟩
          · exact h
          · have ha := (List.pairwise_cons.1 hF.parts).1 l' hl' i0 (by rw [← hl0]; exact List.mem_cons_self ..) i h
            have h1 := anc_listed hc ha hi
            have hi0 : i0 ∈ l := by rw [← hl0]; exact List.mem_cons_self ..
            have hlt := hin i0 (.inl hi0)
            have h2 := (hun i0 hlt).2 (.inl hi0)
            rw [Array.getD_eq_getD_getElem?, Array.getElem?_eq_getElem (by omega)] at h1 h2
            simp at h1 h2
            rw [h1] at h2; cases h2
        have hsorted : l.Pairwise (· < ·) := hF.sorted l (List.mem_cons_self ..)
        have hstep : ∀ i, i ∈ Region.ready md ops listed → ∀ a' w' , S w' → walk P ops L S (phases P ops L Q ls) (l.erase i) a' w' → wpAny P md ops Q fuel (listed.setIfInBounds i true) a' w' := by
          intro i hi a' w' hS' hw'
          have hil := hmem i hi
          have hlen : (l.erase i).length = l.length - 1 := List.length_erase_of_mem hil
          have hpos : 0 < l.length := by rw [← hl0]; simp
          have hnd : l.Nodup := hsorted.imp (fun h => Nat.ne_of_lt h)
          refine ih ls (l.erase i) fuel (listed.setIfInBounds i true) a' w' S (by simp at hn ⊢; omega) (by simpa using hsz) ?_ (hc.set hi) ?_ ?_ (by omega) hS' hw'
          · refine ⟨hF.sel, hF.back, ?_, ?_, ?_, ?_⟩
            · intro l' hl'
              rcases List.mem_cons.1 hl' with rfl | hl'
              · exact hsorted.sublist List.erase_sublist
              · exact hF.sorted l' (List.mem_cons_of_mem _ hl')
            · intro l' hl' h hh j hj
              rcases List.mem_cons.1 hl' with rfl | hl'
              · exact hF.apart l (List.mem_cons_self ..) h (List.mem_of_mem_erase hh) j (List.mem_of_mem_erase hj)
              · exact hF.apart l' (List.mem_cons_of_mem _ hl') h hh j hj
            · intro l' hl' h hh j hj
              rcases List.mem_cons.1 hl' with rfl | hl'
              · exact hF.loud l (List.mem_cons_self ..) h (List.mem_of_mem_erase hh) j (List.mem_of_mem_erase hj)
              · exact hF.loud l' (List.mem_cons_of_mem _ hl') h hh j hj
            · obtain ⟨q1, q2⟩ := List.pairwise_cons.1 hF.parts
              exact List.pairwise_cons.2 ⟨fun l' hl' h hh => q1 l' hl' h (List.mem_of_mem_erase hh), q2⟩
          · intro k hk
            by_cases hik : i = k
            · subst hik
              rw [Array.getD_eq_getD_getElem?, Array.getElem?_setIfInBounds_self_of_lt (by omega)]
              simp only [Option.getD_some, Bool.true_eq_false, false_iff, not_or, not_exists, not_and]
              refine ⟨fun hm => ?_, fun l' hl' hm => ?_⟩
              · exact (hnd.mem_erase_iff.1 hm).1 rfl
              · have ha := (List.pairwise_cons.1 hF.parts).1 l' hl' i hil i hm
                have h1 := anc_listed hc ha hi
                have h2 := (mem_ready.1 hi).1
                rw [Array.getD_eq_getD_getElem?, Array.getElem?_eq_getElem (by omega)] at h1 h2
                simp at h1 h2
                rw [h1] at h2; cases h2
            · rw [getD_set_ne true hik, hun k hk, hnd.mem_erase_iff]
              constructor
              · rintro (h | h)
                · exact .inl ⟨Ne.symm hik, h⟩
                · exact .inr h
              · rintro (h | h)
                · exact .inl h.2
                · exact .inr h
          · intro k hk
            refine hin k ?_
            rcases hk with h | h
            · exact .inl (List.mem_of_mem_erase h)
            · exact .inr h
        refine ⟨fun hr => ?_, fun i hi => ?_⟩
        · exfalso
          have hi0 : i0 ∈ l := by rw [← hl0]; exact List.mem_cons_self ..
          have hlt := hin i0 (.inl hi0)
          have : i0 ∈ Region.ready md ops listed := by
            refine mem_ready.2 ⟨(hun i0 hlt).2 (.inl hi0), ops[i0], Array.getElem?_eq_getElem hlt, fun e he hb => ?_⟩
            have hbk := hF.back i0 _ (Array.getElem?_eq_getElem hlt) e he hb
            cases hl1 : listed.getD e.on true with
            | true =>
              rw [Array.getD_eq_getD_getElem?, Array.getElem?_eq_getElem (by omega)] at hl1 ⊢
              simpa using hl1
            | false =>
              exfalso
              rcases (hun e.on (by omega)).1 hl1 with h | ⟨l', hl', h⟩
              · rw [← hl0] at h hsorted
                rcases List.mem_cons.1 h with h | h
                · omega
                · have := (List.pairwise_cons.1 hsorted).1 _ h; omega
              · have ha := (List.pairwise_cons.1 hF.parts).1 l' hl' i0 hi0 e.on h
                have : ∀ j h, Anc md ops j h → h < j := by
                  intro j h ha
                  induction ha with
                  | edge hj he hb => exact hF.back _ _ hj _ he hb
                  | more hj he hb _ ih => have := hF.back _ _ hj _ he hb; omega
                have := this _ _ ha
                omega
          rw [hr] at this; cases this
        · have hil := hmem i hi
          obtain ⟨h0, o, ho, hall⟩ := mem_ready.1 hi
          have hap : ∀ h ∈ l, h < i → ∀ oh, ops[h]? = some oh → oh.apart ops o = true := by
            intro h hh hlt oh hoh
            rcases hF.apart l (List.mem_cons_self ..) h hh i hil hlt oh o hoh ho with ⟨e, he, hb, hon⟩ | h1
            · exfalso
              have h1 := hall e he hb
              have h2 := (hun h (hin h (.inl hh))).2 (.inl hh)
              rw [hon] at h1
              rw [Array.getD_eq_getD_getElem?, Array.getElem?_eq_getElem (by have := hin h (.inl hh); omega)] at h1 h2
              simp at h1 h2
              rw [h1] at h2; cases h2
            · exact h1
          unfold wpOp
          rw [ho]
          dsimp only
          by_cases hLi : L.contains i = true
          · have hlo : ∀ h ∈ l, h < i → L.contains h = false ∧ ∀ oh, ops[h]? = some oh → oh.apart ops o = true := by
              intro h hh hlt
              refine ⟨?_, hap h hh hlt⟩
              cases hLh : L.contains h with
              | false => rfl
              | true =>
                exfalso
                have h1 := anc_listed hc (hF.loud l (List.mem_cons_self ..) h hh i hil hlt hLh hLi) hi
                have h2 := (hun h (hin h (.inl hh))).2 (.inl hh)
                rw [Array.getD_eq_getD_getElem?, Array.getElem?_eq_getElem (by have := hin h (.inl hh); omega)] at h1 h2
                simp at h1 h2
                rw [h1] at h2; cases h2
            obtain ⟨q1, q2⟩ := loud_out hF.sel ho hLi l a w hS hil hsorted hlo hw
            cases hwa : Region.wanted o (yielded ops a.tmps) with
            | true =>
              rw [if_pos rfl]
              exact .inl (upon_q (q1 hwa) fun a' w' ⟨hS', hw'⟩ => hstep i hi a' w' hS' hw')
            | false =>
              rw [if_neg (by simp)]
              exact hstep i hi _ _ hS (q2 hwa)
          · have hLi' : L.contains i = false := by simpa using hLi
            obtain ⟨v, hy, hw'⟩ := quiet_out hF.sel ho hLi' l a w hS hil hsorted hap hw
            rcases hy with ⟨hwa, hq⟩ | ⟨hwa, rfl⟩
            · rw [if_pos hwa]
              refine .inl ?_
              unfold Oper.wp
              rw [hq w hS]
              exact hstep i hi _ _ hS hw'
            · rw [if_neg (by rw [hwa]; simp)]
              exact hstep i hi _ _ hS hw'

/-! ### the look at the region's text, by computation -/
def ancMask (acc : List Nat) (o : Oper) : Nat :=
  o.after.toList.foldl (fun s e => if Region.binds .any e then s ||| 2 ^ e.on ||| acc.getD e.on 0 else s) 0
def masks : List Oper → List Nat → List Nat
  | [], acc => acc
  | o :: l, acc => masks l (acc ++ [ancMask acc o])

theorem foldl_mask (acc : List Nat) (h : Nat) : ∀ (l : List Edge) (s : Nat),
    (l.foldl (fun s e => if Region.binds .any e then s ||| 2 ^ e.on ||| acc.getD e.on 0 else s) s).testBit h = true →
    s.testBit h = true ∨ ∃ e ∈ l, Region.binds .any e = true ∧ (e.on = h ∨ (acc.getD e.on 0).testBit h = true)
  | [], s, hh => .inl hh
  | e :: l, s, hh => by
    simp only [List.foldl_cons] at hh
    rcases foldl_mask acc h l _ hh with h1 | ⟨e', he', h1⟩
    · by_cases hb : Region.binds .any e = true
      · rw [if_pos hb, Nat.testBit_or, Nat.testBit_or, Nat.testBit_two_pow] at h1
        simp only [Bool.or_eq_true, decide_eq_true_eq] at h1
        rcases h1 with (h1 | h1) | h1
        · exact .inl h1
        · exact .inr ⟨e, List.mem_cons_self .., hb, .inl h1⟩
        · exact .inr ⟨e, List.mem_cons_self .., hb, .inr h1⟩
      · rw [if_neg hb] at h1; exact .inl h1
    · exact .inr ⟨e', List.mem_cons_of_mem _ he', h1⟩

theorem masks_anc : ∀ (l pre : List Oper) (acc : List Nat), ops.toList = pre ++ l → acc.length = pre.length →
    (∀ j m, acc[j]? = some m → ∀ h, m.testBit h = true → Anc .any ops j h) → ∀ j m, (masks l acc)[j]? = some m → ∀ h, m.testBit h = true → Anc .any ops j h
  | [], pre, acc, _, _, ha => ha
  | o :: l, pre, acc, hp, hl, ha => by
    refine masks_anc l (pre ++ [o]) (acc ++ [ancMask acc o]) (by simp [hp]) (by simp [hl]) ?_
    intro j m hj h hm
    rcases Nat.lt_or_ge j acc.length with hlt | hge
    · rw [List.getElem?_append_left hlt] at hj
      exact ha j m hj h hm
    · rw [List.getElem?_append_right hge] at hj
      have hj0 : j = pre.length := by
        rcases Nat.eq_or_lt_of_le hge with e | e
        · omega
        · rw [List.getElem?_eq_none (by simp; omega)] at hj; cases hj
      subst hj0
      rw [hl, Nat.sub_self] at hj
      simp only [List.getElem?_cons_zero, Option.some.injEq] at hj
      subst hj
      have ho : ops[pre.length]? = some o := by
        rw [← Array.getElem?_toList, hp, List.getElem?_append_right (Nat.le_refl _)]; simp
      rcases foldl_mask acc h _ _ hm with h0 | ⟨e, he, hb, h1⟩
      · simp at h0
      · have he' : e ∈ o.after := by simpa using he
        rcases h1 with rfl | h1
        · exact .edge ho he' hb
        · refine .more ho he' hb (ha e.on (acc.getD e.on 0) ?_ h h1)
          rw [List.getD_eq_getElem?_getD] at h1 ⊢
          cases hx : acc[e.on]? with
          | none => rw [hx] at h1; simp at h1
          | some m => rfl

def waits (ops : Array Oper) (oh oj : Oper) (h : Nat) : Bool := oj.after.any (fun e => Region.binds .any e && e.on == h) || oh.apart ops oj
def pairB (ops : Array Oper) (ms : List Nat) (L : List Nat) (h j : Nat) : Bool :=
  (match ops[h]?, ops[j]? with | some oh, some oj => waits ops oh oj h | _, _ => true) && (!(L.contains h && L.contains j) || (ms.getD j 0).testBit h)
def phaseB (ops : Array Oper) (ms L : List Nat) (l : List Nat) : Bool := l.all fun h => l.all fun j => !decide (h < j) || pairB ops ms L h j
def partsB (ms : List Nat) : List (List Nat) → Bool
  | [] => true
  | l :: ls => (ls.all fun l' => l.all fun h => l'.all fun j => (ms.getD j 0).testBit h) && partsB ms ls
def backB (ops : Array Oper) : Bool := ops.toList.zipIdx.all fun x => x.1.after.all fun e => !Region.binds .any e || decide (e.on < x.2)
def cuts : Nat → List Nat → List (List Nat)
  | _, [] => []
  | k, n :: ns => List.range' k n :: cuts (k + n) ns
def fitsB (ops : Array Oper) (L ns : List Nat) : Bool :=
  let ms := masks ops.toList []
  Region.noSelect ops && backB ops && (cuts 0 ns).all (phaseB ops ms L) && partsB ms (cuts 0 ns) && ns.sum == ops.size

theorem getD_bit {ms : List Nat} {j h : Nat} (hb : (ms.getD j 0).testBit h = true) : ∃ m, ms[j]? = some m ∧ m.testBit h = true := by
  rw [List.getD_eq_getElem?_getD] at hb
  cases hx : ms[j]? with
  | none => rw [hx] at hb; simp at hb
  | some m => rw [hx] at hb; exact ⟨m, rfl, hb⟩

theorem cuts_sorted : ∀ (ns : List Nat) (k : Nat), ∀ l ∈ cuts k ns, l.Pairwise (· < ·)
  | [], _, _, h => by cases h
  | n :: ns, k, l, h => by
    rcases List.mem_cons.1 h with rfl | h
    · exact List.pairwise_lt_range'
    · exact cuts_sorted ns (k + n) l h

theorem cuts_mem : ∀ (ns : List Nat) (k i : Nat), (∃ l ∈ cuts k ns, i ∈ l) ↔ k ≤ i ∧ i < k + ns.sum
  | [], k, i => by simp [cuts]
  | n :: ns, k, i => by
    have ih := cuts_mem ns (k + n) i
    simp only [cuts, List.mem_cons, exists_eq_or_imp, ih, List.sum_cons, List.mem_range'_1]
    omega

theorem cuts_len : ∀ (ns : List Nat) (k : Nat), (cuts k ns).flatten.length = ns.sum
  | [], _ => rfl
  | n :: ns, k => by simp [cuts, cuts_len ns (k + n)]

theorem fits_of {L ns : List Nat} (h : fitsB ops L ns = true) : Fits .any ops L (cuts 0 ns) ∧ ns.sum = ops.size := by
  simp only [fitsB, Bool.and_eq_true, beq_iff_eq, List.all_eq_true] at h
  obtain ⟨⟨⟨⟨h1, h2⟩, h3⟩, h4⟩, h5⟩ := h
  have hm : ∀ j h, ((masks ops.toList []).getD j 0).testBit h = true → Anc .any ops j h := by
    intro j h hb
    obtain ⟨m, hm, hb⟩ := getD_bit hb
    exact masks_anc ops.toList [] [] (by simp) rfl (fun j m hj => by simp at hj) j m hm h hb
  generalize masks ops.toList [] = ms at *
  refine ⟨⟨h1, ?_, cuts_sorted ns 0, ?_, ?_, ?_⟩, h5⟩
  · intro j o hj e he hb
    simp only [backB, List.all_eq_true] at h2
    have hz : (o, j) ∈ ops.toList.zipIdx := by
      rw [List.mem_zipIdx_iff_getElem?]; simpa using hj
    have := h2 _ hz
    rw [Array.all_eq_true_iff_forall_mem] at this
    have := this e he
    simpa [hb] using this
  · intro l hl h hh j hj hlt oh oj hoh hoj
    have := h3 l hl
    simp only [phaseB, List.all_eq_true] at this
    have := this h hh j hj
    simp only [hlt, decide_true, Bool.not_true, Bool.false_or, pairB, hoh, hoj, waits, Bool.and_eq_true, Bool.or_eq_true] at this
    rcases this.1 with h6 | h6
    · obtain ⟨e, he, hb⟩ := Array.any_eq_true'.1 h6
      simp only [Bool.and_eq_true, beq_iff_eq] at hb
      exact .inl ⟨e, he, hb.1, hb.2⟩
    · exact .inr h6
  · intro l hl h hh j hj hlt hLh hLj
    have := h3 l hl
    simp only [phaseB, List.all_eq_true] at this
    have := this h hh j hj
    simp only [hlt, decide_true, Bool.not_true, Bool.false_or, pairB, Bool.and_eq_true, hLh, hLj, Bool.and_self] at this
    exact hm j h this.2
  · have : ∀ ls : List (List Nat), partsB ms ls = true → ls.Pairwise fun l l' => ∀ h ∈ l, ∀ j ∈ l', Anc .any ops j h := by
      intro ls
      induction ls with
      | nil => intro _; exact List.Pairwise.nil
      | cons l ls ih =>
        intro hp
        simp only [partsB, Bool.and_eq_true, List.all_eq_true] at hp
        exact List.pairwise_cons.2 ⟨fun l' hl' h hh j hj => hm j h (hp.1 l' hl' h hh j hj), ih hp.2⟩
    exact this _ h4

/-! ### the walk over the operations themselves -/
def walkO (P : Program) (ops : Array Oper) (L : List Nat) (S : World → Prop) (K : Act → World → Prop) : Nat → Nat → List Oper → Act → World → Prop
  | _, 0, _, a, w => K a w
  | _, _ + 1, [], _, _ => False
  | k, n + 1, o :: l, a, w =>
      if L.contains k = true then
        (Region.wanted o (yielded ops a.tmps) = true → o.wp P a w (fun a' w' => S w' ∧ walkO P ops L S K (k + 1) n l a' w') NoExit) ∧
        (Region.wanted o (yielded ops a.tmps) = false → walkO P ops L S K (k + 1) n l (a.put o.dst undef) w)
      else ∃ v, Yields P ops S o a v ∧ walkO P ops L S K (k + 1) n l (a.put o.dst v) w

def phasesO (P : Program) (ops : Array Oper) (L : List Nat) (Q : Exit → Act → World → Prop) : Nat → List Nat → List Oper → Act → World → Prop
  | _, [], _, a, w => Q .normal a w
  | k, n :: ns, l, a, w => ∃ S : World → Prop, S w ∧ walkO P ops L S (phasesO P ops L Q (k + n) ns (l.drop n)) k n l a w

theorem walk_of {S : World → Prop} {L : List Nat} {K K' : Act → World → Prop} (hK : ∀ a w, K a w → K' a w) : ∀ (n k : Nat) (l : List Oper) (a : Act) (w : World),
    (∀ j, j < n → l[j]? = ops[k + j]?) → walkO P ops L S K k n l a w → walk P ops L S K' (List.range' k n) a w
  | 0, k, l, a, w, _, h => hK _ _ h
  | n + 1, k, [], a, w, _, h => h.elim
  | n + 1, k, o :: l, a, w, hl, h => by
    have h0 : ops[k]? = some o := by have := hl 0 (by omega); simpa using this.symm
    have ih : ∀ a w, walkO P ops L S K (k + 1) n l a w → walk P ops L S K' (List.range' (k + 1) n) a w := fun a w => walk_of hK n (k + 1) l a w (fun j hj => by have := hl (j + 1) (by omega); simpa [Nat.add_assoc, Nat.add_comm 1 j] using this)
    rw [List.range'_succ]
    refine ⟨o, h0, ?_⟩
    unfold walkO at h
    by_cases hLk : L.contains k = true
    · rw [if_pos hLk] at h ⊢
      refine ⟨fun hw => upon_q (h.1 hw) fun a' w' ⟨h1, h2⟩ => ⟨h1, ih a' w' h2⟩, fun hw => ih _ _ (h.2 hw)⟩
    · rw [if_neg hLk] at h ⊢
      obtain ⟨v, hy, h⟩ := h
      exact ⟨v, hy, ih _ _ h⟩

theorem phases_of {L : List Nat} {Q : Exit → Act → World → Prop} : ∀ (ns : List Nat) (k : Nat) (l : List Oper) (a : Act) (w : World),
    (∀ j, j < ns.sum → l[j]? = ops[k + j]?) → phasesO P ops L Q k ns l a w → phases P ops L Q (cuts k ns) a w
  | [], _, _, _, _, _, h => h
  | n :: ns, k, l, a, w, hl, h => by
    obtain ⟨S, hS, h⟩ := h
    refine ⟨S, hS, walk_of (fun a w => phases_of ns (k + n) (l.drop n) a w fun j hj => ?_) n k l a w (fun j hj => hl j (by simp; omega)) h⟩
    rw [List.getElem?_drop, hl (n + j) (by simp; omega), Nat.add_assoc]

/-- **THE REGION.** L: the loud operations' numbers; ns: how many operations each phase has. -/
theorem region {id : Nat} {Q : Exit → Act → World → Prop} {a : Act} {w : World} {l : List Oper} (L ns : List Nat) (hm : P.follows .mixedOrders = true) (hB : fitsB l.toArray L ns = true)
    (h : phasesO P l.toArray L Q 0 ns l a w.drew) : (Code.region id l.toArray true).wp P Q a w := by
  obtain ⟨hF, hsum⟩ := fits_of hB
  refine wp_region_any hm ?_
  have h' := phases_of (ops := l.toArray) ns 0 l a w.drew (fun j _ => by simp) h
  have hall : ∀ i, i < l.toArray.size → ((Array.replicate l.toArray.size false).getD i true = false ↔ ∃ l' ∈ cuts 0 ns, i ∈ l') := by
    intro i hi
    rw [cuts_mem, hsum]
    simp only [List.size_toArray] at hi
    simp [Array.getD_eq_getD_getElem?, hi]
  refine anyOrder (L := L) (2 + (cuts 0 ns).length + l.toArray.size) (cuts 0 ns) [] l.toArray.size (Array.replicate l.toArray.size false) a w.drew (fun _ => True) (by simp; omega) (by simp) ?_ ?_ ?_ ?_ ?_ trivial h'
  · refine ⟨hF.sel, hF.back, ?_, ?_, ?_, ?_⟩
    · intro l' hl'; rcases List.mem_cons.1 hl' with rfl | hl'
      · exact List.Pairwise.nil
      · exact hF.sorted l' hl'
    · intro l' hl'; rcases List.mem_cons.1 hl' with rfl | hl'
      · intro h hh; cases hh
      · exact hF.apart l' hl'
    · intro l' hl'; rcases List.mem_cons.1 hl' with rfl | hl'
      · intro h hh; cases hh
      · exact hF.loud l' hl'
    · exact List.pairwise_cons.2 ⟨fun l' _ h hh => (by cases hh), hF.parts⟩
  · intro j o hj hl
    exfalso
    rw [Array.getD_eq_getD_getElem?, Array.getElem?_replicate] at hl
    split at hl <;> simp at hl
  · intro i hi; rw [hall i hi]; simp
  · intro i hi
    have : ∃ l' ∈ cuts 0 ns, i ∈ l' := by simpa using hi
    rw [cuts_mem, hsum] at this
    omega
  · rw [cuts_len, hsum]; simp

section
variable {Q : Exit → Act → World → Prop} {L ns : List Nat} {S : World → Prop} {K : Act → World → Prop} {k n : Nat} {o : Oper} {l : List Oper} {a : Act} {w : World}
theorem opens (S : World → Prop) (hS : S w) (h : walkO P ops L S (phasesO P ops L Q (k + n) ns (l.drop n)) k n l a w) : phasesO P ops L Q k (n :: ns) l a w := ⟨S, hS, h⟩
theorem ends (h : Q .normal a w) : phasesO P ops L Q k [] l a w := h
theorem done (h : K a w) : walkO P ops L S K k 0 l a w := by unfold walkO; exact h
theorem quiet {v : Value} (hL : L.contains k = false) (hw : Region.wanted o (yielded ops a.tmps) = true) (hq : ∀ w', S w' → (execOp a.eval o).run P w' = .ok (.value v) w')
    (h : walkO P ops L S K (k + 1) n l (a.put o.dst v) w) : walkO P ops L S K k (n + 1) (o :: l) a w := by
  unfold walkO; rw [if_neg (by rw [hL]; simp)]; exact ⟨v, .inl ⟨hw, hq⟩, h⟩
theorem skips (hw : Region.wanted o (yielded ops a.tmps) = false) (h : walkO P ops L S K (k + 1) n l (a.put o.dst undef) w) : walkO P ops L S K k (n + 1) (o :: l) a w := by
  unfold walkO
  split
  · exact ⟨fun hw' => (by rw [hw] at hw'; cases hw'), fun _ => h⟩
  · exact ⟨undef, .inr ⟨hw, rfl⟩, h⟩
theorem loud (hL : L.contains k = true) (hw : Region.wanted o (yielded ops a.tmps) = true)
    (h : ∀ K' : Act → World → Prop, (∀ a w, S w → walkO P ops L S K (k + 1) n l a w → K' a w) → o.wp P a w K' NoExit) : walkO P ops L S K k (n + 1) (o :: l) a w := by
  unfold walkO; rw [if_pos hL]
  exact ⟨fun _ => h _ (fun a w h1 h2 => ⟨h1, h2⟩), fun hw' => (by rw [hw] at hw'; cases hw')⟩
end

end Go.Lex

namespace Go.RowKit
open Go.ChangeShapes Go.WideShapes Go.ChangeAt Go.Deep
open Go.ChangeMaps (open_string)
section
variable {H : Type} {enc : TypeId × Value → H} {P : Program} {W : World} {base : Nat} {t e : TypeId} {v : Value} {d : DataW H} {p : List MemPlace}

theorem arg_int {k : IntKind} (ht : P.underlying t = some (.int k)) (hk : Value.okWide P W .any base t v) (h : DataW.Trod enc P W 0 (fun _ => true) true t v d p) :
    ∃ n, v = .int k n ∧ (Lit.int k n).wf = true := by
  obtain ⟨n, rfl, _, _, hw⟩ := open_int ht hk h
  exact ⟨n, rfl, hw⟩
end
end Go.RowKit

/- What an argument reads as, whatever its type (integers, booleans, strings, slices, structs, one in another): read out of the reader's own recursion, kept while old blocks stay. Over any program. -/
namespace Go

inductive Dt where
  | num (n : Int)
  | bit (b : Bool)
  | str (s : ByteArray)
  | row (l : List Dt)
  | agg (l : List Dt)
  | other
  deriving Inhabited

def Rd (P : Program) (w : World) : Nat → TypeId → List Value → Dt → Prop
  | 0, _, _, _ => False
  | n + 1, t, cs, d =>
    match P.underlying t with
    | some .bool => ∃ b, cs = [.bool b] ∧ d = .bit b
    | some (.int k) => ∃ z, cs = [.int k z] ∧ d = .num z ∧ (Lit.int k z).wf = true
    | some .string => ∃ s, cs = [.string s] ∧ d = .str s ∧ s.size ≤ maxLen
    | some (.slice e) => ∃ l sa cap, d = .row l ∧ cs = [.slice sa l.length cap] ∧ l.length ≤ cap ∧ cap ≤ maxLen ∧ (sa = none → cap = 0) ∧
        ∀ i (h : i < l.length), ∃ a es, sa = some a ∧ w.cells? 0 (a.add (i * P.cellsOf e)) (P.cellsOf e) = some es ∧ Rd P w n e es l[i]
    | some (.struct fs) => ∃ l, d = .agg l ∧ cs.length = P.cellsOf t ∧ l.length = fs.size ∧
        ∀ i f (h : i < l.length), fs[i]? = some f → Rd P w n f.type ((cs.drop f.offset).take (P.cellsOf f.type)) l[i]
    | _ => True

/-- a list out of its places -/
theorem list_of_each {α : Type} {n : Nat} {p : Nat → α → Prop} (h : ∀ i, i < n → ∃ y, p i y) : ∃ L : List α, L.length = n ∧ ∀ i (hi : i < L.length), p i L[i] := by
  induction n with
  | zero => exact ⟨[], rfl, fun i hi => by simp at hi⟩
  | succ n ih =>
    obtain ⟨L, h1, h2⟩ := ih (fun i hi => h i (by omega))
    obtain ⟨y, hy⟩ := h n (by omega)
    refine ⟨L ++ [y], by simp [h1], fun i hi => ?_⟩
    rcases Nat.lt_or_ge i L.length with h3 | h3
    · rw [List.getElem_append_left h3]; exact h2 i h3
    · have : i = n := by simp at hi; omega
      subst this
      rw [List.getElem_append_right h3]
      simpa [h1] using hy

open Go.Deep in
theorem Rd.of_trod {H : Type} {enc : TypeId × Value → H} {P : Program} {w : World} {held : Bool} : ∀ (n : Nat) (t : TypeId) (cs : List Value) (x : DataW H × List MemPlace),
    DataW.trod enc P w 0 (fun _ => true) held n t cs = some x → ∃ d, Rd P w n t cs d
  | 0, t, cs, x, h => by simp [DataW.trod] at h
  | n + 1, t, cs, x, h => by
    unfold Rd
    split
    · rename_i ht
      obtain ⟨b, rfl, _⟩ := DataW.trod_bool ht h
      exact ⟨_, b, rfl, rfl⟩
    · rename_i k ht
      obtain ⟨z, rfl, _, hw⟩ := DataW.trod_int ht h
      exact ⟨_, z, rfl, rfl, hw⟩
    · rename_i ht
      obtain ⟨s, rfl, _, hs⟩ := DataW.trod_string ht h
      exact ⟨_, s, rfl, rfl, hs⟩
    · rename_i e ht
      rcases DataW.trod_slice ht h with ⟨rfl, _⟩ | ⟨a, len, cap, elems, rest, m, hn, rfl, _, _, hl, hm, hlen, hel, _, _⟩
      · exact ⟨.row [], [], none, 0, rfl, rfl, Nat.le_refl _, Nat.zero_le _, fun _ => rfl, fun i hi => by simp at hi⟩
      · obtain rfl : n = m := by omega
        have hd : ∀ i, i < len → ∃ d, ∃ es, w.cells? 0 (a.add (i * P.cellsOf e)) (P.cellsOf e) = some es ∧ Rd P w n e es d := by
          intro i hi
          have h1 := hel i hi
          rw [List.getElem?_eq_getElem (by omega)] at h1
          obtain ⟨es, h2, h3⟩ := Option.bind_eq_some_iff.1 h1
          obtain ⟨d, hd⟩ := Rd.of_trod n e es _ h3
          exact ⟨d, es, h2, hd⟩
        obtain ⟨L, hL, hp⟩ := list_of_each hd
        refine ⟨.row L, L, some a, cap, rfl, by rw [hL], by omega, hm, (fun h => by cases h), fun i hi => ?_⟩
        obtain ⟨es, h1, h2⟩ := hp i hi
        exact ⟨a, es, rfl, h1, h2⟩
    · rename_i fs ht
      obtain ⟨xs, m, hn, _, hl, hxs, hf⟩ := DataW.trod_struct ht h
      obtain rfl : n = m := by omega
      have hd : ∀ i, i < fs.size → ∃ d, ∀ f, fs[i]? = some f → Rd P w n f.type ((cs.drop f.offset).take (P.cellsOf f.type)) d := by
        intro i hi
        have h1 := hf i fs[i] (Array.getElem?_eq_getElem hi)
        rw [List.getElem?_eq_getElem (by omega)] at h1
        obtain ⟨d, hd⟩ := Rd.of_trod n _ _ _ h1
        refine ⟨d, fun f hf => ?_⟩
        rw [Array.getElem?_eq_getElem hi] at hf
        cases hf
        exact hd
      obtain ⟨L, hL, hp⟩ := list_of_each hd
      exact ⟨.agg L, L, rfl, hl, hL, fun i f h hf => hp i h f hf⟩
    · exact ⟨.other, trivial⟩

theorem cells_at {w : World} {base : Nat} {a : Addr} {n : Nat} {cs : List Value} (h : w.cells? base a n = some cs) : cs.length = n ∧ ∀ i, i < n → w.cell? (a.add i) = cs[i]? := by
  obtain ⟨_, h1, h2⟩ := World.cells?_some h
  exact ⟨h1, h2⟩

section
variable {P : Program} {w : World} {n : Nat} {t e : TypeId} {cs : List Value} {d : Dt}
theorem Rd.pos (h : Rd P w n t cs d) : ∃ m, n = m + 1 := by
  cases n with
  | zero => exact h.elim
  | succ m => exact ⟨m, rfl⟩
theorem Rd.int {k : IntKind} (ht : P.underlying t = some (.int k)) (h : Rd P w n t cs d) : ∃ z, cs = [.int k z] ∧ d = .num z ∧ (Lit.int k z).wf = true := by
  obtain ⟨m, rfl⟩ := h.pos
  unfold Rd at h; rw [ht] at h; exact h
theorem Rd.slice (ht : P.underlying t = some (.slice e)) (h : Rd P w n t cs d) : ∃ l sa cap, d = .row l ∧ cs = [.slice sa l.length cap] ∧ l.length ≤ cap ∧ cap ≤ maxLen ∧ (sa = none → cap = 0) ∧
        ∀ i (h : i < l.length), ∃ a es, sa = some a ∧ w.cells? 0 (a.add (i * P.cellsOf e)) (P.cellsOf e) = some es ∧ Rd P w (n - 1) e es l[i] := by
  obtain ⟨m, rfl⟩ := h.pos
  unfold Rd at h; rw [ht] at h; exact h
theorem Rd.struct {fs : Array Field} (ht : P.underlying t = some (.struct fs)) (h : Rd P w n t cs d) : ∃ l, d = .agg l ∧ cs.length = P.cellsOf t ∧ l.length = fs.size ∧
        ∀ i f (h : i < l.length), fs[i]? = some f → Rd P w (n - 1) f.type ((cs.drop f.offset).take (P.cellsOf f.type)) l[i] := by
  obtain ⟨m, rfl⟩ := h.pos
  unfold Rd at h; rw [ht] at h; exact h
theorem arg_row {H : Type} {enc : TypeId × Value → H} {W : World} {base : Nat} {v : Value} {d : DataW H} {p : List MemPlace} (ht : P.underlying t = some (.slice e)) (hk : Value.okWide P W .any base t v) (h : DataW.Trod enc P W 0 (fun _ => true) true t v d p) :
    ∃ n d, Rd P W n t [v] d := by
  obtain ⟨a, len, cap, rfl⟩ := WideShapes.okWide_slice ht hk
  obtain ⟨fuel, hf⟩ := h
  obtain ⟨d, hd⟩ := Rd.of_trod fuel t _ _ hf
  exact ⟨fuel, d, by simpa [Value.cells] using hd⟩
theorem arg_agg {H : Type} {enc : TypeId × Value → H} {W : World} {base : Nat} {v : Value} {d : DataW H} {p : List MemPlace} {fs : Array Field} (ht : P.underlying t = some (.struct fs)) (hk : Value.okWide P W .any base t v) (h : DataW.Trod enc P W 0 (fun _ => true) true t v d p) :
    ∃ cs n d, v = .agg cs ∧ Rd P W n t cs.toList d := by
  obtain ⟨cs, rfl, _⟩ := WideShapes.okWide_struct ht hk
  obtain ⟨fuel, hf⟩ := h
  obtain ⟨d, hd⟩ := Rd.of_trod fuel t _ _ hf
  exact ⟨cs, fuel, d, rfl, by simpa [Value.cells] using hd⟩
theorem spot_none {a : Addr} {u : Value} (h : w.cell? a = some u) : a = ⟨a.block, a.off, none⟩ := by
  obtain ⟨b, o, sp⟩ := a
  cases sp with
  | none => rfl
  | some x =>
    exfalso
    unfold World.cell? at h
    split at h <;> simp at h
theorem len_two : ∀ (es : List Value), es.length = 2 → ∃ a b, es = [a, b]
  | [a, b], _ => ⟨a, b, rfl⟩
/-- a row, by its block -/
theorem Rd.rows {z : Nat} (ht : P.underlying t = some (.slice e)) (hc : P.cellsOf e = z) (hz : 0 < z) (h : Rd P w n t cs d) :
    ∃ l sa cap, d = .row l ∧ cs = [.slice sa l.length cap] ∧ l.length ≤ cap ∧ cap ≤ maxLen ∧ (sa = none → cap = 0) ∧
      ∀ i (h : i < l.length), ∃ b o es, sa = some ⟨b, o, none⟩ ∧ es.length = z ∧ (∀ j u, es[j]? = some u → w.cell? ⟨b, o + i * z + j, none⟩ = some u) ∧ Rd P w (n - 1) e es l[i] := by
  obtain ⟨l, sa, cap, h0, h1, h2, h3, h4, h5⟩ := h.slice ht
  refine ⟨l, sa, cap, h0, h1, h2, h3, h4, fun i hi => ?_⟩
  subst hc
  obtain ⟨a0, es0, rfl, q1, _⟩ := h5 0 (by omega)
  obtain ⟨q2, q3⟩ := cells_at q1
  have q4 := q3 0 hz
  rw [List.getElem?_eq_getElem (by omega)] at q4
  have ea : a0 = ⟨a0.block, a0.off, none⟩ := by
    have := spot_none q4
    rwa [show (a0.add (0 * P.cellsOf e)).add 0 = a0 from by unfold Addr.add; simp] at this
  generalize a0.block = ab at ea
  generalize a0.off = ao at ea
  subst ea
  obtain ⟨a1, es, ha, q5, q6⟩ := h5 i hi
  obtain rfl := Option.some.inj ha
  obtain ⟨q7, q8⟩ := cells_at q5
  refine ⟨ab, ao, es, rfl, q7, fun j u hu => ?_, q6⟩
  have hj : j < P.cellsOf e := by rw [← q7]; exact (List.getElem?_eq_some_iff.1 hu).1
  have := q8 j hj
  rw [hu, Addr.add_lit, Addr.add_lit] at this
  exact this
/-- a struct, by its fields -/
theorem Rd.fields {fs : Array Field} {z : Nat} (ht : P.underlying t = some (.struct fs)) (hz : P.cellsOf t = z) (h : Rd P w n t cs d) :
    ∃ l, d = .agg l ∧ cs.length = z ∧ l.length = fs.size ∧ ∀ (i : Nat) (ty : TypeId) (off sz : Nat), (fs[i]?).map (fun (f : Field) => (f.type, f.offset)) = some (ty, off) → P.cellsOf ty = sz → ∃ di, l[i]? = some di ∧ Rd P w (n - 1) ty ((cs.drop off).take sz) di := by
  obtain ⟨l, h0, h1, h2, h3⟩ := h.struct ht
  refine ⟨l, h0, by rw [h1, hz], h2, fun i ty off sz hf hs => ?_⟩
  obtain ⟨f, hf1, hf2⟩ := Option.map_eq_some_iff.1 hf
  have hi : i < l.length := by rw [h2]; exact (Array.getElem?_eq_some_iff.1 hf1).1
  refine ⟨l[i], List.getElem?_eq_getElem hi, ?_⟩
  have := h3 i f hi hf1
  cases hf2
  rw [hs] at this
  exact this
/-- a row of integers -/
theorem Rd.reads {k : IntKind} (ht : P.underlying t = some (.slice e)) (he : P.underlying e = some (.int k)) (hc : P.cellsOf e = 1) {v : Value} (h : Rd P w n t [v] d) :
    ∃ zs : List Int, d = .row (zs.map .num) ∧ Reads w v 1 zs.length (zs.map (.int k)) ∧ (∀ z ∈ zs, (Lit.int k z).wf = true) ∧ zs.length ≤ maxLen := by
  obtain ⟨l, sa, cap, rfl, hcs, h1, h2, h3, h4⟩ := h.slice ht
  obtain rfl : v = .slice sa l.length cap := by simpa using hcs
  have hd : ∀ i, i < l.length → ∃ z : Int, l[i]? = some (.num z) ∧ (Lit.int k z).wf = true ∧ ∃ a, sa = some a ∧ w.cell? (a.add i) = some (.int k z) := by
    intro i hi
    obtain ⟨a, es, ha, h5, h6⟩ := h4 i hi
    obtain ⟨z, rfl, hz, hw⟩ := h6.int he
    rw [hc, Nat.mul_one] at h5
    obtain ⟨q1, q2⟩ := cells_at h5
    have := q2 0 (by omega)
    rw [show (a.add i).add 0 = a.add i from by unfold Addr.add; simp] at this
    exact ⟨z, by rw [List.getElem?_eq_getElem hi, hz], hw, a, ha, this⟩
  obtain ⟨zs, hl, hp⟩ := list_of_each hd
  refine ⟨zs, ?_, ?_, fun z hz => ?_, by omega⟩
  · congr 1
    apply List.ext_getElem (by simp [hl])
    intro i hi1 hi2
    have := (hp i (by simpa using hi2)).1
    rw [List.getElem?_eq_getElem hi1] at this
    simpa using this
  · cases sa with
    | none =>
      have h0 := h3 rfl
      have hl0 : l.length = 0 := by omega
      have hz0 : zs = [] := List.length_eq_zero_iff.1 (by omega)
      subst hz0
      rw [h0, hl0]
      exact .inl ⟨rfl, rfl, rfl⟩
    | some a =>
      refine .inr ⟨a, cap, by rw [hl], by omega, h2, by simp, fun j u hu => ?_⟩
      rw [List.getElem?_map] at hu
      obtain ⟨z, hz, rfl⟩ := Option.map_eq_some_iff.1 hu
      obtain ⟨hj, rfl⟩ := List.getElem?_eq_some_iff.1 hz
      obtain ⟨_, _, a', ha', hc'⟩ := hp j hj
      cases ha'
      exact hc'
  · obtain ⟨i, hi, rfl⟩ := List.getElem_of_mem hz
    exact (hp i hi).2.1
end
end Go

/- Straight operations that do not look at the world, run by computation: a list of them at once. Over any program. -/
namespace Go
/-- operations that yield a value in every world, and leave it as it is -/
def Still (P : Program) (a : Act) (o : Oper) (v : Value) : Prop := o.guard = none ∧ ∀ w, (execOp a.eval o).run P w = .ok (.value v) w

theorem still_build {P : Program} {a : Act} {o : Oper} {v : Value} {t : TypeId} {parts : List (Nat × Operand)} (hg : o.guard = none) (ho : o.op = .build t parts.toArray) (h : ∀ w, (Instr.build t (parts.map fun x => (x.1, a.eval x.2)).toArray).run P w = .ok v w) : Still P a o v :=
  ⟨hg, fun w => by simp only [execOp, ho, List.map_toArray, Sem.run_bind, h w, Sem.run_pure, Result.andThen_ok]⟩

theorem wpList_still {P : Program} {ops : Array Oper} {Q : Exit → Act → World → Prop} {o : Oper} {rest : List Oper} {a : Act} {w : World} {v : Value} (h : Still P a o v)
    (k : wpList P ops Q rest (a.put o.dst v) w) : wpList P ops Q (o :: rest) a w := by
  refine wpList_plain h.1 fun K hK => ?_
  unfold Oper.wp
  rw [h.2 w]
  exact hK _ _ k

theorem wpList_store {P : Program} {ops : Array Oper} {Q : Exit → Act → World → Prop} {o : Oper} {rest : List Oper} {a : Act} {w w' : World} {t : TypeId} {p x : Operand} (hg : o.guard = none) (ho : o.op = .store t p x)
    (h : (Instr.storeAt t (a.eval p) (a.eval x)).run P w = .ok () w') (k : wpList P ops Q rest (a.put o.dst undef) w') : wpList P ops Q (o :: rest) a w := by
  refine wpList_plain hg fun K hK => ?_
  unfold Oper.wp
  simp only [execOp, ho, Sem.run_bind, h, Sem.run_pure, Result.andThen_ok]
  exact hK _ _ k
theorem act_put (l : Array Value) (ds : List Deferred) (d : Nat) (v : Value) : Act.put { tmps := l, defers := ds } (some d) v = { tmps := l.setIfInBounds d v, defers := ds } := rfl
theorem act_put_none (a : Act) (v : Value) : a.put none v = a := rfl

theorem results_cell {P : Program} {fn : Func} {tmps : Array Value} {w w' : World} {d : Tmp} {t : TypeId} {ad : Addr} {v : Value} (hr : fn.results = #[.cell d t]) (ha : tmps.getD d undef = .pointer (some ad))
    (hl : (loadVar t ad).run P w = .ok v w') : (results fn tmps).run P w = .ok v w' := by
  have ha' : tmps[d]?.getD undef = .pointer (some ad) := by rw [← ha]; simp [Array.getD_eq_getD_getElem?]
  simp only [results, hr]
  simp [ha', asAddr, hl]

end Go

/- One append as a loud operation of a region that draws its order. Over any program. -/
namespace Go
/-- append onto a row of the call's own, whatever readable source; it tells where the row lies then. -/
theorem wp_append_at {P : Program} {w : World} {o : Oper} {a : Act} {K : Act → World → Prop} {Q : Exit → Act → World → Prop} (s x : Operand) (t : TypeId)
    (ho : o.op = .call { callee := .builtin .append, args := #[s, x], argTypes := #[t, t] })
    (base : Nat) (e : TypeId) (z : Value) (size bytes : Nat) (ht : P.underlying t = some (.slice e)) (hi : (P.info? e).map (fun i => (i.zero, i.size, i.bytes)) = some (some z, size, bytes))
    (hzs : z.cells.size = size) (hsz : 0 < size)
    (v : Value) (n : Nat) (xs : List Value) (hs : a.eval s = v) (hown : w.ownsRow base e size v n xs)
    (m : Nat) (news : List Value) (hr : Reads w (a.eval x) size m news) (h1 : ∀ u ∈ news, u.oneCell' = true)
    (h63 : n + m ≤ maxLen) (hbytes : (n + m) * bytes ≤ 140737488355328) (hbase : base ≤ w.heap.size)
    (h : ∀ a' c' w', w'.ownsRow base e size (.slice a' (n + m) c') (n + m) (xs ++ news) → w.grownBy w' v.ownBlock →
      (∀ k, (Value.slice a' (n + m) c').ownBlock = some k → v.ownBlock = some k ∨ k = w.heap.size) → K (a.put o.dst (.slice a' (n + m) c')) w') : o.wp P a w K Q := by
  obtain ⟨i0, hi, hz0, hz1, hz2⟩ := info_parts hi
  rcases hr with ⟨hx, rfl, rfl⟩ | ⟨ad, cap, hx, _, _, hl, hc⟩
  · obtain ⟨a', c', hv⟩ := owns_shape hown
    have hrun := run_append_owned_none (P := P) (w := w) base t o.type e i0 size ht hi v n xs hown
    have hk := h a' c' w (by simpa [← hv] using hown) (World.grownBy.refl w _) (fun k hk => .inl (by rw [hv]; exact hk))
    rw [show (n + 0) = n from rfl, ← hv] at hk
    unfold Oper.wp
    simp [execOp, ho, resolve, invoke, builtin, hs, hx, hrun, Result.andThen]
    exact hk
  · obtain ⟨v', w', hrun, h2, h3, h4⟩ := run_append_where (P := P) w base t o.type e i0 z size bytes ht hi hz0 hz1 hz2 hzs hsz v n xs hown ad m cap news hl hc h1 h63 hbytes hbase
    obtain ⟨a', c', hv⟩ := owns_shape h2
    subst hv
    have hk := h a' c' w' h2 h3 (fun k hk => by
      rcases h4 with h4 | h4
      · exact .inl (h4 ▸ hk)
      · rw [h4] at hk; exact .inr (Option.some.inj hk).symm)
    unfold Oper.wp
    simp [execOp, ho, resolve, invoke, builtin, hs, hx, hrun, Result.andThen]
    exact hk
/-- a whole struct or array is loaded, in a region that draws its order -/
theorem Lex.row {P : Program} {ops : Array Oper} {L : List Nat} {S : World → Prop} {K : Act → World → Prop} {k n : Nat} {o : Oper} {l : List Oper} {a : Act} {w : World}
    (hL : L.contains k = false) (hw : Region.wanted o (yielded ops a.tmps) = true) (ty : TypeId) (x : Operand) (ho : o.op = .load ty x) (g : Nat) (hx : a.eval x = .pointer (some ⟨g, 0, none⟩))
    (t : TypeId) (cs : Array Value) (fr : Nat × Nat) (d : TypeDesc) (hS : ∀ w', S w' → w'.heap[g]? = some (.cells cs t fr)) (hu : P.underlying ty = some d)
    (hd : (match d with | .struct _ | .array _ _ => true | _ => false) = true) (hi : (P.info? ty).map (·.size) = some cs.size)
    (h : walkO P ops L S K (k + 1) n l (a.put o.dst (.agg cs)) w) : walkO P ops L S K k (n + 1) (o :: l) a w :=
  Lex.quiet hL hw (fun w' hw' => by
    unfold execOp
    simp only [ho, hx, Instr.loadAt, Instr.sureAddr, Sem.run_bind, Sem.run_pure, Result.andThen_ok, run_loadVar_row w' g t ty cs fr d (hS w' hw') hu hd hi]) h
end Go

/- A region that draws its order, by an invariant over what has been carried out: each operation, whenever it may come up, leads from the invariant to the invariant. Over any program. -/
namespace Go.Inv
variable {P : Program} {ops : Array Oper} {Q : Exit → Act → World → Prop} {md : Region.Mode}

def doneOf (listed : Array Bool) : Nat → Bool := fun k => listed.getD k false
theorem doneOf_set {listed : Array Bool} {i : Nat} (h : i < listed.size) : doneOf (listed.setIfInBounds i true) = fun k => k == i || doneOf listed k := by
  funext k
  unfold doneOf
  by_cases hk : k = i
  · subst hk; simp [Array.getD_eq_getD_getElem?, h]
  · have hk' : (k == i) = false := by simpa using hk
    rw [getD_set_ne false (fun e => hk e.symm), hk']; rfl

def backB (md : Region.Mode) (ops : Array Oper) : Bool := ops.toList.zipIdx.all fun x => x.1.after.toList.all fun e => !Region.binds md e || decide (e.on < x.2)

theorem back_of (h : backB md ops = true) : ∀ j o, ops[j]? = some o → ∀ e ∈ o.after, Region.binds md e = true → e.on < j := by
  intro j o hj e he hb
  unfold backB at h
  rw [List.all_eq_true] at h
  have h1 := h (o, j) (by rw [List.mem_zipIdx_iff_getElem?]; simpa using hj)
  rw [List.all_eq_true] at h1
  have h2 := h1 e (by simpa using he)
  simpa [hb] using h2

theorem all_of_ready (hback : ∀ j o, ops[j]? = some o → ∀ e ∈ o.after, Region.binds md e = true → e.on < j) {listed : Array Bool} (hs : listed.size = ops.size) (hr : Region.ready md ops listed = []) :
    ∀ j, j < ops.size → doneOf listed j = true := by
  intro j
  induction j using Nat.strongRecOn with
  | ind j ih =>
    intro hj
    cases hd : doneOf listed j with
    | true => rfl
    | false =>
      exfalso
      have : j ∈ Region.ready md ops listed := by
        rw [mem_ready]
        refine ⟨?_, ops[j], Array.getElem?_eq_getElem hj, fun e he hb => ?_⟩
        · unfold doneOf at hd
          rw [Array.getD_eq_getD_getElem?, Array.getElem?_eq_getElem (by omega)] at hd ⊢
          exact hd
        · exact ih e.on (hback j _ (Array.getElem?_eq_getElem hj) e he hb) (by have := hback j _ (Array.getElem?_eq_getElem hj) e he hb; omega)
      rw [hr] at this
      cases this

theorem any_inv (hback : ∀ j o, ops[j]? = some o → ∀ e ∈ o.after, Region.binds md e = true → e.on < j) (I : (Nat → Bool) → Act → World → Prop)
    (hstep : ∀ dn a w i o, I dn a w → ops[i]? = some o → dn i = false → (∀ e ∈ o.after, Region.binds md e = true → dn e.on = true) →
      Region.wanted o (yielded ops a.tmps) = true ∧ o.wp P a w (I (fun k => k == i || dn k)) Q)
    (hend : ∀ dn a w, I dn a w → (∀ i, i < ops.size → dn i = true) → Q .normal a w) :
    ∀ (fuel : Nat) (listed : Array Bool) (a : Act) (w : World), listed.size = ops.size → listed.toList.count false ≤ fuel → I (doneOf listed) a w → wpAny P md ops Q fuel listed a w := by
  intro fuel
  induction fuel with
  | zero =>
    intro listed a w hs hc hI
    have hall : ∀ i, i < ops.size → doneOf listed i = true := by
      intro i hi
      cases hd : doneOf listed i with
      | true => rfl
      | false =>
        exfalso
        unfold doneOf at hd
        rw [Array.getD_eq_getD_getElem?, Array.getElem?_eq_getElem (by omega)] at hd
        have : false ∈ listed.toList := by
          have h1 : listed[i]'(by omega) ∈ listed := Array.getElem_mem (by omega)
          simp only [Option.getD_some] at hd
          rw [hd] at h1
          simpa using h1
        have := List.count_pos_iff.2 this
        omega
    refine ⟨?_, hend _ _ _ hI hall⟩
    rw [List.eq_nil_iff_forall_not_mem]
    intro i hi
    obtain ⟨h0, o, ho, _⟩ := mem_ready.1 hi
    have hi' := (Array.getElem?_eq_some_iff.1 ho).1
    have := hall i hi'
    unfold doneOf at this
    rw [Array.getD_eq_getD_getElem?, Array.getElem?_eq_getElem (by omega)] at this h0
    simp only [Option.getD_some] at this h0
    rw [this] at h0; cases h0
  | succ fuel ih =>
    intro listed a w hs hc hI
    refine ⟨fun hr => hend _ _ _ hI (all_of_ready hback hs hr), fun i hi => ?_⟩
    obtain ⟨h0, o, ho, hall⟩ := mem_ready.1 hi
    have hi' := (Array.getElem?_eq_some_iff.1 ho).1
    have hd : listed[i]'(by omega) = false := by
      rw [Array.getD_eq_getD_getElem?, Array.getElem?_eq_getElem (by omega)] at h0
      simpa using h0
    have hd' : doneOf listed i = false := by
      unfold doneOf
      rw [Array.getD_eq_getD_getElem?, Array.getElem?_eq_getElem (by omega)]
      simpa using hd
    obtain ⟨hw, hwp⟩ := hstep _ a w i o hI ho hd' (fun e he hb => hall e he hb)
    unfold wpOp
    rw [ho]
    simp only [hw, if_true]
    refine .inl (Oper.wp_mono (fun a' w' h => ?_) hwp)
    refine ih _ a' w' (by simpa using hs) ?_ (by rw [doneOf_set (by omega)]; exact h)
    rw [Array.toList_setIfInBounds, List.count_set (by simpa using (by omega : i < listed.size))]
    have h1 : (listed.toList[i]'(by simpa using (by omega : i < listed.size))) = false := by simpa using hd
    have h2 : 0 < listed.toList.count false := List.count_pos_iff.2 (by rw [← h1]; exact List.getElem_mem _)
    simp only [h1]
    have h3 : (if (true == false) = true then 1 else 0 : Nat) = 0 := rfl
    have h4 : (if (false == false) = true then 1 else 0 : Nat) = 1 := rfl
    rw [h4]
    have h5 : ∀ b : Nat, (b + if (true == false) = true then 1 else 0) = b := fun b => by rw [h3]; rfl
    rw [h5]
    omega

theorem region {id : Nat} {a : Act} {w : World} (l : List Oper) (hm : P.follows .mixedOrders = true) (hB : backB .any l.toArray = true) (I : (Nat → Bool) → Act → World → Prop)
    (h0 : I (fun _ => false) a w.drew)
    (hstep : ∀ dn a w i o, I dn a w → l[i]? = some o → dn i = false → (∀ e ∈ o.after, Region.binds .any e = true → dn e.on = true) →
      Region.wanted o (yielded l.toArray a.tmps) = true ∧ o.wp P a w (I (fun k => k == i || dn k)) Q)
    (hend : ∀ dn a w, I dn a w → (∀ i, i < l.length → dn i = true) → Q .normal a w) : (Code.region id l.toArray true).wp P Q a w := by
  refine wp_region_any hm (any_inv (back_of hB) I (fun dn a w i o h1 h2 => hstep dn a w i o h1 (by simpa using h2)) (fun dn a w h1 h2 => hend dn a w h1 (by simpa using h2)) _ _ _ _ (by simp) (by simp [List.count_replicate]) ?_)
  have : doneOf (Array.replicate l.toArray.size false) = fun _ => false := by
    funext k
    unfold doneOf
    rw [Array.getD_eq_getD_getElem?, Array.getElem?_replicate]
    split <;> rfl
  rw [this]
  exact h0

/-! ### a frame with some slots turned -/
def over (a : Act) (ds : List Nat) (x : Nat → Value) : Act := { a with tmps := ds.foldl (fun t d => t.setIfInBounds d (x d)) a.tmps }
theorem fold_get (x : Nat → Value) (k : Nat) : ∀ (ds : List Nat) (t : Array Value), (ds.foldl (fun t d => t.setIfInBounds d (x d)) t)[k]? = if k < t.size ∧ k ∈ ds then some (x k) else t[k]?
  | [], t => by simp
  | d :: ds, t => by
    rw [List.foldl_cons, fold_get x k ds, Array.size_setIfInBounds, Array.getElem?_setIfInBounds]
    by_cases hk : d = k
    · subst hk
      by_cases h1 : d < t.size <;> simp [h1]
    · have : ¬ k = d := fun e => hk e.symm
      simp [hk, this]
theorem over_put {a : Act} {ds : List Nat} {x : Nat → Value} {d : Nat} {v : Value} (h : d ∈ ds) : (over a ds x).put (some d) v = over a ds (fun k => if k = d then v else x k) := by
  have key : (ds.foldl (fun t d => t.setIfInBounds d (x d)) a.tmps).setIfInBounds d v = ds.foldl (fun t e => t.setIfInBounds e ((fun k => if k = d then v else x k) e)) a.tmps := by
   apply Array.ext_getElem?
   intro k
   rw [Array.getElem?_setIfInBounds, fold_get, fold_get (fun k => if k = d then v else x k)]
   have hsz : (ds.foldl (fun t d => t.setIfInBounds d (x d)) a.tmps).size = a.tmps.size := by
     have : ∀ (ds : List Nat) (t : Array Value), (ds.foldl (fun t d => t.setIfInBounds d (x d)) t).size = t.size := by
       intro ds
       induction ds with
       | nil => intro t; rfl
       | cons d ds ih => intro t; rw [List.foldl_cons, ih, Array.size_setIfInBounds]
     exact this _ _
   by_cases hk : d = k
   · subst hk
     by_cases h1 : d < a.tmps.size
     · simp [h1, h, hsz]
     · simp [h1, hsz]
   · have : ¬ k = d := fun e => hk e.symm
     simp [hk, this]
  show ({ a with tmps := (ds.foldl (fun t d => t.setIfInBounds d (x d)) a.tmps).setIfInBounds d v } : Act) = _
  rw [key]; rfl
theorem over_start (a : Act) (ds : List Nat) : over a ds (fun d => a.tmps.getD d undef) = a := by
  unfold over
  have : ds.foldl (fun t d => t.setIfInBounds d (a.tmps.getD d undef)) a.tmps = a.tmps := by
    apply Array.ext_getElem?
    intro k
    rw [fold_get (fun d => a.tmps.getD d undef)]
    split
    · rename_i h
      rw [Array.getD_eq_getD_getElem?, Array.getElem?_eq_getElem h.1]; rfl
    · rfl
  rw [this]
/-- what an operand reads as -/
theorem over_slot {a : Act} {ds : List Nat} {x : Nat → Value} {k : Nat} (h : k ∈ ds) (hk : k < a.tmps.size) : (over a ds x).eval (.tmp k) = x k := by
  show (over a ds x).tmps.getD k undef = x k
  unfold over
  rw [Array.getD_eq_getD_getElem?, fold_get, if_pos ⟨hk, h⟩]; rfl
/-- one operation's step, shut up (the elaborator does not run it) -/
structure Step (P : Program) (o : Oper) (a : Act) (w : World) (K : Act → World → Prop) (Q : Exit → Act → World → Prop) : Prop where
  out : o.wp P a w K Q

theorem region_over {id : Nat} {a0 : Act} {w : World} (l : List Oper) (ds : List Nat) (hm : P.follows .mixedOrders = true) (hB : (backB .any l.toArray && l.all (·.guard.isNone)) = true) (J : (Nat → Value) → (Nat → Bool) → World → Prop)
    (h0 : J (fun d => a0.tmps.getD d undef) (fun _ => false) w.drew)
    (hstep : ∀ x dn w i o, J x dn w → l[i]? = some o → dn i = false → (∀ e ∈ o.after, Region.binds .any e = true → dn e.on = true) →
      Step P o (over a0 ds x) w (fun a' w' => ∃ x', a' = over a0 ds x' ∧ J x' (fun k => k == i || dn k) w') Q)
    (hend : ∀ x dn w, J x dn w → (∀ i, i < l.length → dn i = true) → Q .normal (over a0 ds x) w) : (Code.region id l.toArray true).wp P Q a0 w := by
  rw [Bool.and_eq_true] at hB
  refine region l hm hB.1 (fun dn a w => ∃ x, a = over a0 ds x ∧ J x dn w) ⟨_, (over_start a0 ds).symm, h0⟩ ?_ ?_
  · rintro dn a w i o ⟨x, rfl, hJ⟩ ho hd hdep
    have hg : o.guard = none := by
      have := List.all_eq_true.1 hB.2 o (List.mem_of_getElem? ho)
      simpa using this
    exact ⟨by simp [Region.wanted, hg], (hstep x dn w i o hJ ho hd hdep).out⟩
  · rintro dn a w ⟨x, rfl, hJ⟩ hall
    exact hend x dn w hJ hall

section
variable {o : Oper} {a : Act} {w : World} {K : Act → World → Prop}
theorem Step.alloc (t : TypeId) (z : Value) (ho : o.op = .alloc t) (hz : (zeroValue t).run P w = .ok z w)
    (h : K (a.put o.dst (.pointer (some ⟨w.heap.size, 0, none⟩))) (w.alloc (.cells z.cells t))) : Step P o a w K Q := by
  refine ⟨?_⟩
  unfold Oper.wp
  simp [execOp, ho, Instr.alloc, hz, Result.andThen]
  exact h

theorem Step.store_row (ty : TypeId) (x y : Operand) (ho : o.op = .store ty x y)
    (g : Nat) (cells : Array Value) (hx : a.eval x = .pointer (some ⟨g, 0, none⟩)) (hy : a.eval y = .agg cells)
    (t : TypeId) (old : Array Value) (hg : w.heap[g]? = some (.cells old t (0, 0))) (hi : (P.info? ty).map (·.size) = some cells.size)
    (hold : old.size = cells.size) (h1 : cells.all (·.oneCell') = true)
    (h : K (a.put o.dst undef) (w.setRow g cells)) : Step P o a w K Q := ⟨wp_store_row ty x y ho g cells hx hy t old hg hi hold h1 h⟩

/-- an operation that yields a value and leaves the world as it is -/
theorem Step.value {v : Value} (hr : (execOp a.eval o).run P w = .ok (.value v) w) (h : K (a.put o.dst v) w) : Step P o a w K Q := by
  refine ⟨?_⟩
  unfold Oper.wp
  rw [hr]
  exact h
end
end Go.Inv

/- A struct or array that lies anywhere in a block, loaded whole. Over any program. -/
namespace Go
/-- from a place in a block on these cells lie -/
def At (w : World) (b o : Nat) (cs : List Value) : Prop := ∀ j v, cs[j]? = some v → w.cell? ⟨b, o + j, none⟩ = some v
theorem At.frx {S : Nat → Prop} {w w' : World} {b o : Nat} {cs : List Value} (h : At w b o cs) (r : Fr S w w') (hb : ¬ S b) : At w' b o cs := fun j v hj => r.cell (h j v hj) hb
theorem At.fr {w w' : World} {b o : Nat} {cs : List Value} (h : At w b o cs) (r : Fr no w w') : At w' b o cs := h.frx r (by simp)
theorem At.of_heap {w : World} {b : Nat} {cs : Array Value} {t : TypeId} {z : Nat × Nat} (h : w.heap[b]? = some (.cells cs t z)) : At w b 0 cs.toList := fun j v hj => by
  rw [Nat.zero_add]; exact cell_of_heap h (by simpa using hj)
theorem run_loadVar_in {P : Program} (w : World) (b o : Nat) (ty : TypeId) (cs : List Value) (d : TypeDesc) (hg : At w b o cs)
    (hu : P.underlying ty = some d) (hd : (match d with | .struct _ | .array _ _ => true | _ => false) = true) (hi : (P.info? ty).map (·.size) = some cs.length) :
    (loadVar ty ⟨b, o, none⟩).run P w = .ok (.agg cs.toArray) w := by
  have hl : (loadCells ⟨b, o, none⟩ cs.length).run P w = .ok cs.toArray w :=
    run_loadCells_list (P := P) w ⟨b, o, none⟩ cs (fun j v hv => by
      have hadd : (⟨b, o, none⟩ : Addr).add j = ⟨b, o + j, none⟩ := by unfold Addr.add; split <;> simp_all
      rw [hadd]
      exact hg j v hv)
  cases hq : P.info? ty with
  | none => simp [hq] at hi
  | some i =>
    have hs : i.size = cs.length := by simpa [hq] using hi
    have hagg : (isAgg ty).run P w = .ok true w := by
      unfold isAgg
      rw [Sem.run_bind, run_underlying hu w]
      cases d <;> simp_all
    simp [loadVar, Sem.run_bind, hagg, sizeOf, typeInfo, hq, hs, hl]
/-- in a region that draws its order -/
theorem Lex.into {P : Program} {ops : Array Oper} {L : List Nat} {S : World → Prop} {K : Act → World → Prop} {k n : Nat} {o : Oper} {l : List Oper} {a : Act} {w : World}
    (hL : L.contains k = false) (hw : Region.wanted o (yielded ops a.tmps) = true) (ty : TypeId) (x : Operand) (ho : o.op = .load ty x) (g q : Nat) (hx : a.eval x = .pointer (some ⟨g, q, none⟩))
    (cs : List Value) (d : TypeDesc) (hS : ∀ w', S w' → At w' g q cs) (hu : P.underlying ty = some d)
    (hd : (match d with | .struct _ | .array _ _ => true | _ => false) = true) (hi : (P.info? ty).map (·.size) = some cs.length)
    (h : walkO P ops L S K (k + 1) n l (a.put o.dst (.agg cs.toArray)) w) : walkO P ops L S K k (n + 1) (o :: l) a w :=
  Lex.quiet hL hw (fun w' hw' => by
    unfold execOp
    simp only [ho, hx, Instr.loadAt, Instr.sureAddr, Sem.run_bind, Sem.run_pure, Result.andThen_ok, run_loadVar_in w' g q ty cs d (hS w' hw') hu hd hi]) h
theorem wpList_load_in {P : Program} {w : World} {ops : Array Oper} {rest : List Oper} {o : Oper} {a : Act} {Q : Exit → Act → World → Prop} (hgd : o.guard = none) (ty : TypeId) (x : Operand) (ho : o.op = .load ty x)
    (g q : Nat) (hx : a.eval x = .pointer (some ⟨g, q, none⟩)) (cs : List Value) (d : TypeDesc) (hS : At w g q cs) (hu : P.underlying ty = some d)
    (hd : (match d with | .struct _ | .array _ _ => true | _ => false) = true) (hi : (P.info? ty).map (·.size) = some cs.length)
    (h : wpList P ops Q rest (a.put o.dst (.agg cs.toArray)) w) : wpList P ops Q (o :: rest) a w := by
  refine wpList_plain hgd fun K hK => ?_
  unfold Oper.wp execOp
  simp only [ho, hx, Instr.loadAt, Instr.sureAddr, Sem.run_bind, Sem.run_pure, Result.andThen_ok, run_loadVar_in w g q ty cs d hS hu hd hi]
  exact hK _ _ h
end Go

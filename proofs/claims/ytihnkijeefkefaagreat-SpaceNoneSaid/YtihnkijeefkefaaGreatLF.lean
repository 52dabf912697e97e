import Derived.Test.YtihnkijeefkefaaGreatLE
import Derived.Defers
set_option linter.unusedSimpArgs false
set_option linter.unusedVariables false
set_option linter.unusedSectionVars false
set_option linter.unnecessarySimpa false
set_option maxRecDepth 100000
namespace Go.Proofs.YtihnkijeefkefaaGreat
open Go.RowKit

attribute [local go_sem] Program.isFuncB Program.isSliceB

variable {w w' w'' w0 : World}

/-- so many bytes from a place on, as a number, and what is left of the reader: its place, and whether it is short -/
def takeR (bs : List Nat) (n : Nat) (p : Nat × Bool) : Nat × Nat × Bool :=
  if p.2 = true ∨ bs.length < p.1 + n then (0, p.1, true) else (unle ((bs.drop p.1).take n), p.1 + n, false)

theorem reads_sub {v : Value} {l : List Nat} {a n : Nat} (h : Reads w v 1 l.length (u8s l)) (hn : 0 < n) (hl : a + n ≤ l.length) : ∃ b o c, v = .slice (some ⟨b, o, none⟩) l.length c ∧ l.length ≤ c ∧ Reads w (.slice (some ⟨b, o + a, none⟩) n (c - a)) 1 n (u8s ((l.drop a).take n)) := by
  rcases h with ⟨_, h0, _⟩ | ⟨ad, cap, rfl, h1, h2, h3, h4⟩
  · omega
  · obtain ⟨b, o, rfl⟩ : ∃ b o, ad = ⟨b, o, none⟩ := by
      have h5 := h4 0 (.int .u8 (l[0]'(by omega) : Nat)) (by simp only [u8s, List.getElem?_map]; rw [List.getElem?_eq_getElem (by omega)]; rfl)
      have := spot_none h5
      rw [show ad.add 0 = ad from by unfold Addr.add; simp] at this
      exact ⟨_, _, this⟩
    refine ⟨b, o, cap, rfl, h1, .inr ⟨_, _, rfl, by omega, by omega, by rw [u8s_len]; simp; omega, fun j u hu => ?_⟩⟩
    rw [Addr.add_lit]
    have hj : j < n := by
      have := (List.getElem?_eq_some_iff.1 hu).1
      rw [u8s_len] at this
      simp at this; omega
    have h5 := h4 (a + j) u (by
      simp only [u8s, List.getElem?_map, List.getElem?_take, List.getElem?_drop] at hu ⊢
      rw [if_pos hj] at hu
      exact hu)
    rw [Addr.add_lit] at h5
    rw [Nat.add_assoc]
    exact h5

end Go.Proofs.YtihnkijeefkefaaGreat

namespace Go.Proofs.YtihnkijeefkefaaGreat
open Go.RowKit

attribute [local go_sem] Program.isFuncB Program.isSliceB

variable {w w' w'' w0 : World}

theorem elem_ne {a b : Nat} {c1 c2 : Array Value} {t1 t2 : TypeId} (h1 : w.heap[a]? = some (.cells c1 t1 (0, 0))) (h2 : w.heap[b]? = some (.cells c2 t2 (0, 0))) (h : t1 ≠ t2) : a ≠ b := by
  rintro rfl
  rw [h1] at h2
  simp at h2
  exact h h2.2

def zeroIns : Array Value := #[.int .i64 0, .int .i64 0, .int .i64 0, .int .i64 0, .int .i64 0, .slice none 0 0]

end Go.Proofs.YtihnkijeefkefaaGreat

namespace Go.Proofs.YtihnkijeefkefaaGreat
open Go.RowKit

attribute [local go_sem] Program.isFuncB Program.isSliceB

variable {w w' w'' w0 : World}

/-! ### which instruction bytes are -/
def sgn (x : Nat) : Int := if x < 9223372036854775808 then (x : Int) else (x : Int) - 18446744073709551616
theorem wrap_sgn (x : Nat) (h : x < 18446744073709551616) : IntKind.i64.wrap (x : Int) = sgn x := by
  rw [IntKind.wrap_i64]; unfold sgn; split <;> omega
theorem sgn_small (x : Nat) (h : x < 256) : sgn x = x := by unfold sgn; rw [if_pos (by omega)]
structure GS where
  A : Int
  B : Int
  C : Int
  N : Int
  k : Nat
  many : Nat
  p : Nat × Bool
def GS.put (g : GS) (c : UInt8) (z : Int) (p : Nat × Bool) : GS :=
  if regB c.toNat = true then (match g.k with
    | 0 => { g with A := z, k := 1, p := p }
    | 1 => { g with B := z, k := 2, p := p }
    | _ => { g with C := z, k := g.k + 1, p := p })
  else { g with N := z, p := p }
def stepG (bs : List Nat) (g : GS) (c : UInt8) : GS :=
  if c = 108 then { g with many := (takeR bs 1 g.p).1, p := (takeR bs 1 g.p).2 }
  else g.put c (sgn (takeR bs (widthOf c.toNat) g.p).1) (takeR bs (widthOf c.toNat) g.p).2
def startG (p : Nat × Bool) : GS := ⟨0, 0, 0, 0, 0, 0, p⟩
def runG (bs : List Nat) (p : Nat × Bool) (s : List UInt8) : GS := s.foldl (stepG bs) (startG p)
theorem runG_snoc (bs : List Nat) (p : Nat × Bool) (s : List UInt8) (c : UInt8) : runG bs p (s ++ [c]) = stepG bs (runG bs p s) c := by simp [runG]
def argsR (bs : List Nat) : Nat → Nat × Bool → List Int × (Nat × Bool)
  | 0, p => ([], p)
  | n + 1, p => ((argsR bs n p).1 ++ [((takeR bs 1 (argsR bs n p).2).1 : Int)], (takeR bs 1 (argsR bs n p).2).2)
theorem argsR_len (bs : List Nat) : ∀ (n : Nat) (p : Nat × Bool), (argsR bs n p).1.length = n
  | 0, _ => rfl
  | n + 1, p => by simp [argsR, argsR_len bs n p]

structure Gt where
  ix : Ix
  next : Int
  er : Int
  fa : Int
def failG (er fa : Int) : Gt := ⟨⟨0, 0, 0, 0, 0, []⟩, 0, er, fa⟩
def getR (bs : List Nat) (at' : Int) : Gt :=
  if at' < 0 ∨ (bs.length : Int) < at' then failG 2 0
  else if (takeR bs 1 (at'.toNat, false)).2.2 = true then failG 4 bs.length
  else if 33 ≤ (takeR bs 1 (at'.toNat, false)).1 then failG 16 at'
  else
    let o := (takeR bs 1 (at'.toNat, false)).1
    let g := runG bs (takeR bs 1 (at'.toNat, false)).2 (sh o)
    if g.p.2 = true then failG 4 bs.length
    else if 8 < g.many then failG 3 at'
    else if (argsR bs g.many g.p).2.2 = true then failG 4 bs.length
    else if checkOf o g.A g.B g.C g.N (argsR bs g.many g.p).1 64 4096 ≠ 0 then failG 5 at'
    else ⟨⟨o, g.A, g.B, g.C, g.N, (argsR bs g.many g.p).1⟩, (argsR bs g.many g.p).2.1, 0, 0⟩

theorem takeR_small (bs : List Nat) (p : Nat × Bool) (hb : ∀ b ∈ bs, b < 256) : (takeR bs 1 p).1 < 256 := by
  unfold takeR
  split
  · exact Nat.zero_lt_succ _
  · have := unle_lt ((bs.drop p.1).take 1) (fun b hb' => hb b (List.mem_of_mem_drop (List.mem_of_mem_take hb')))
    have h2 : 256 ^ ((bs.drop p.1).take 1).length ≤ 256 ^ 1 := Nat.pow_le_pow_right (by decide) (by simp; omega)
    show unle _ < 256
    omega
theorem takeR_lt (bs : List Nat) (n : Nat) (p : Nat × Bool) (hb : ∀ b ∈ bs, b < 256) (hn : n ≤ 8) : (takeR bs n p).1 < 18446744073709551616 := by
  unfold takeR
  split
  · exact Nat.zero_lt_succ _
  · have := unle_lt ((bs.drop p.1).take n) (fun b hb' => hb b (List.mem_of_mem_drop (List.mem_of_mem_take hb')))
    have h2 : 256 ^ ((bs.drop p.1).take n).length ≤ 256 ^ 8 := Nat.pow_le_pow_right (by decide) (by simp; omega)
    show unle _ < _
    omega

theorem results_get {P : Program} {fn : Func} {tmps : Array Value} {w : World} {d1 d2 d3 : Tmp} {t1 t2 t3 : TypeId} {a1 a2 a3 : Addr} {v1 v2 v3 : Value} (hr : fn.results = #[.cell d1 t1, .cell d2 t2, .cell d3 t3])
    (h1 : tmps.getD d1 undef = .pointer (some a1)) (h2 : tmps.getD d2 undef = .pointer (some a2)) (h3 : tmps.getD d3 undef = .pointer (some a3))
    (l1 : (loadVar t1 a1).run P w = .ok v1 w) (l2 : (loadVar t2 a2).run P w = .ok v2 w) (l3 : (loadVar t3 a3).run P w = .ok v3 w) : (results fn tmps).run P w = .ok (.tuple #[v1, v2, v3]) w := by
  have h1' : tmps[d1]?.getD undef = .pointer (some a1) := by rw [← h1]; simp [Array.getD_eq_getD_getElem?]
  have h2' : tmps[d2]?.getD undef = .pointer (some a2) := by rw [← h2]; simp [Array.getD_eq_getD_getElem?]
  have h3' : tmps[d3]?.getD undef = .pointer (some a3) := by rw [← h3]; simp [Array.getD_eq_getD_getElem?]
  simp only [results, hr]
  simp [h1', h2', h3', asAddr, l1, l2, l3]

theorem load_int (w : World) (b : Nat) (z : Int) (h : w.heap[b]? = some (.cells #[.int .i64 z] 3 (0, 0))) : (loadVar 3 ⟨b, 0, none⟩).run Tryz.prog w = .ok (.int .i64 z) w := by
  have hc : w.cell? ⟨b, 0, none⟩ = some (.int .i64 z) := cell_of_heap h rfl
  simp [loadVar, go_sem, hc]

end Go.Proofs.YtihnkijeefkefaaGreat

namespace Go.Proofs.YtihnkijeefkefaaGreat
open Go.RowKit

attribute [local go_sem] Program.isFuncB Program.isSliceB

variable {w w' w'' w0 : World}

/-- what Get is handed -/
structure Bytes (w : World) (bv : Value) (bs : List Nat) : Prop where
  reads : Reads w bv 1 bs.length (u8s bs)
  small : ∀ b ∈ bs, b < 256
  len : bs.length ≤ 100000
  old : ∀ k, bv.ownBlock = some k → k < w.heap.size

end Go.Proofs.YtihnkijeefkefaaGreat

namespace Go.Proofs.YtihnkijeefkefaaGreat
open Go.RowKit

attribute [local go_sem] Program.isFuncB Program.isSliceB

variable {w w' w'' w0 : World}

def insC (o : Nat) (g : GS) (u : Value) : Array Value := #[.int .i64 o, .int .i64 g.A, .int .i64 g.B, .int .i64 g.C, .int .i64 g.N, u]
theorem put_cells (o : Nat) (g : GS) (c : UInt8) (z : Int) (p : Nat × Bool) (u : Value) (hk : g.k < 3) : (insC o g u).setIfInBounds (placeI c.toNat g.k) (.int .i64 z) = insC o (g.put c z p) u := by
  unfold placeI GS.put
  cases regB c.toNat with
  | false => rfl
  | true =>
    obtain ⟨A, B, C, N, k, many, q⟩ := g
    dsimp only at hk ⊢
    obtain rfl | rfl | rfl : k = 0 ∨ k = 1 ∨ k = 2 := by omega
    all_goals rfl
theorem put_k (g : GS) (c : UInt8) (z : Int) (p : Nat × Bool) : (g.put c z p).k = (if regB c.toNat = true then g.k + 1 else g.k) ∧ (g.put c z p).p = p ∧ (g.put c z p).many = g.many := by
  unfold GS.put
  cases regB c.toNat with
  | false => exact ⟨rfl, rfl, rfl⟩
  | true =>
    obtain ⟨A, B, C, N, k, many, q⟩ := g
    match k with
    | 0 => exact ⟨rfl, rfl, rfl⟩
    | 1 => exact ⟨rfl, rfl, rfl⟩
    | k + 2 => exact ⟨rfl, rfl, rfl⟩
theorem stepG_k (bs : List Nat) (g : GS) (c : UInt8) (hb : ∀ b ∈ bs, b < 256) : (stepG bs g c).k ≤ g.k + 1 ∧ (g.many < 256 → (stepG bs g c).many < 256) := by
  unfold stepG
  split
  · exact ⟨by simp, fun _ => takeR_small bs g.p hb⟩
  · rw [(put_k _ _ _ _).1, (put_k _ _ _ _).2.2]
    refine ⟨?_, id⟩
    split <;> omega
theorem runG_k (bs : List Nat) (p : Nat × Bool) (hb : ∀ b ∈ bs, b < 256) : ∀ (n : Nat) (s : List UInt8), s.length = n → (runG bs p s).k ≤ n ∧ (runG bs p s).many < 256
  | 0, s, h => by rw [List.length_eq_zero_iff.1 h]; exact ⟨Nat.le_refl _, Nat.zero_lt_succ _⟩
  | n + 1, s, h => by
    have hne : s ≠ [] := by rintro rfl; simp at h
    rw [← List.dropLast_concat_getLast hne, runG_snoc]
    have ih := runG_k bs p hb n s.dropLast (by simp [h])
    have := stepG_k bs (runG bs p s.dropLast) (s.getLast hne) hb
    exact ⟨by omega, this.2 ih.2⟩

theorem iter_ne {a b k : Nat} {s : ByteArray} {c : Array Value} {t : TypeId} (h1 : w.heap[a]? = some (.stringIter s k)) (h2 : w.heap[b]? = some (.cells c t (0, 0))) : a ≠ b := by
  rintro rfl
  rw [h1] at h2
  cases h2

section
variable {wr wr' : World} {it k o : Nat} {s : ByteArray} {g : GS} {p p' : Nat × Bool} {bv : Value} {bs : List Nat}
end

/-- what Get hands back -/
def resV (t : Gt) (u : Value) : Value := .tuple #[.agg #[.int .i64 t.ix.o, .int .i64 t.ix.A, .int .i64 t.ix.B, .int .i64 t.ix.C, .int .i64 t.ix.N, u], .int .i64 t.next, .agg #[.int .i64 t.er, .int .i64 t.fa]]
def GotR (w : World) (t : Gt) (e : Ending) (w' : World) : Prop := ∃ u, e = .returned (resV t u) ∧ w'.ownsRow w.heap.size 3 1 u t.ix.l.length (ints t.ix.l) ∧ Fr no w w'
theorem got_fail (w w' : World) (er fa : Int) (h : Fr no w w') : GotR w (failG er fa) (.returned (.tuple #[.agg zeroIns, .int .i64 0, .agg #[.int .i64 er, .int .i64 fa]])) w' :=
  ⟨.slice none 0 0, rfl, World.ownsRow_nil _ _ _ _, h⟩

end Go.Proofs.YtihnkijeefkefaaGreat

namespace Go.Proofs.YtihnkijeefkefaaGreat
open Go.RowKit

attribute [local go_sem] Program.isFuncB Program.isSliceB

variable {w w' w'' w0 : World}

end Go.Proofs.YtihnkijeefkefaaGreat

namespace Go.Proofs.YtihnkijeefkefaaGreat
open Go.RowKit

attribute [local go_sem] Program.isFuncB Program.isSliceB

variable {w w' w'' w0 : World}

theorem results_ref {P : Program} {fn : Func} {tmps : Array Value} {w : World} {d1 d2 d3 : Tmp} {t1 t3 : TypeId} {a1 a3 : Addr} {v1 v2 v3 : Value} (hr : fn.results = #[.cell d1 t1, .tmp d2, .cell d3 t3])
    (h1 : tmps.getD d1 undef = .pointer (some a1)) (h2 : tmps.getD d2 undef = v2) (h3 : tmps.getD d3 undef = .pointer (some a3))
    (l1 : (loadVar t1 a1).run P w = .ok v1 w) (l3 : (loadVar t3 a3).run P w = .ok v3 w) : (results fn tmps).run P w = .ok (.tuple #[v1, v2, v3]) w := by
  have h1' : tmps[d1]?.getD undef = .pointer (some a1) := by rw [← h1]; simp [Array.getD_eq_getD_getElem?]
  have h2' : tmps[d2]?.getD undef = v2 := by rw [← h2]; simp [Array.getD_eq_getD_getElem?]
  have h3' : tmps[d3]?.getD undef = .pointer (some a3) := by rw [← h3]; simp [Array.getD_eq_getD_getElem?]
  simp only [results, hr]
  simp [h1', h2', h3', asAddr, l1, l3]

/-! ### plain facts of reading on -/
theorem takeR_sticky (bs : List Nat) (n : Nat) (p : Nat × Bool) (h : p.2 = true) : (takeR bs n p).2.2 = true := by
  unfold takeR; rw [if_pos (.inl h)]
theorem stepG_sticky (bs : List Nat) (g : GS) (c : UInt8) (h : g.p.2 = true) : (stepG bs g c).p.2 = true := by
  unfold stepG
  split
  · exact takeR_sticky bs 1 g.p h
  · rw [(put_k _ _ _ _).2.1]; exact takeR_sticky bs _ g.p h
theorem fold_sticky (bs : List Nat) : ∀ (s : List UInt8) (g : GS), g.p.2 = true → (s.foldl (stepG bs) g).p.2 = true
  | [], g, h => h
  | c :: s, g, h => fold_sticky bs s _ (stepG_sticky bs g c h)
theorem runG_sticky (bs : List Nat) (p : Nat × Bool) (s : List UInt8) (k : Nat) (h : (runG bs p (s.take k)).p.2 = true) : (runG bs p s).p.2 = true := by
  have : runG bs p s = (s.drop k).foldl (stepG bs) (runG bs p (s.take k)) := by
    unfold runG
    rw [← List.foldl_append, List.take_append_drop]
  rw [this]
  exact fold_sticky bs _ _ h
theorem takeR_fine (bs : List Nat) (n a : Nat) (h : a + n ≤ bs.length) : takeR bs n (a, false) = (unle ((bs.drop a).take n), a + n, false) := by
  unfold takeR; rw [if_neg (by rintro (h' | h'); cases h'; simp at h'; omega)]
theorem takeR_short (bs : List Nat) (n a : Nat) (h : bs.length < a + n) : takeR bs n (a, false) = (0, a, true) := by
  unfold takeR; rw [if_pos (.inr h)]
theorem takeR_one (bs : List Nat) (a : Nat) (h : a < bs.length) : takeR bs 1 (a, false) = (bs[a], a + 1, false) := by
  rw [takeR_fine bs 1 a (by omega), List.drop_eq_getElem_cons h, List.take_succ_cons, List.take_zero]
  rfl
theorem argsR_fine (bs : List Nat) (a : Nat) : ∀ (n : Nat), a + n ≤ bs.length → argsR bs n (a, false) = (((bs.drop a).take n).map (fun (x : Nat) => (x : Int)), a + n, false)
  | 0, _ => by simp [argsR]
  | n + 1, h => by
    have ih := argsR_fine bs a n (by omega)
    unfold argsR
    rw [ih]
    dsimp only
    rw [takeR_one bs (a + n) (by omega)]
    rw [List.take_succ_eq_append_getElem (by simp; omega)]
    simp
    omega
theorem argsR_sticky (bs : List Nat) : ∀ (n : Nat) (p : Nat × Bool), p.2 = true → (argsR bs n p).2.2 = true
  | 0, _, h => h
  | n + 1, p, h => by
    unfold argsR
    exact takeR_sticky bs 1 _ (argsR_sticky bs n p h)
theorem argsR_short (bs : List Nat) (a n : Nat) (ha : a ≤ bs.length) (h : bs.length < a + n) : (argsR bs n (a, false)).2.2 = true := by
  induction n with
  | zero => omega
  | succ n ih =>
    unfold argsR
    by_cases h1 : bs.length < a + n
    · exact takeR_sticky bs 1 _ (ih h1)
    · rw [argsR_fine bs a n (by omega)]
      dsimp only
      rw [takeR_short bs 1 (a + n) (by omega)]
theorem shape_l : ∀ n, n < 33 → (List.range (shapeOf n).data.toList.length).all (fun k => (shapeOf n).data.toList.getD k 0 != 108 || k + 1 == (shapeOf n).data.toList.length) = true := by decide

end Go.Proofs.YtihnkijeefkefaaGreat

namespace Go.Proofs.YtihnkijeefkefaaGreat
open Go.RowKit

attribute [local go_sem] Program.isFuncB Program.isSliceB

variable {w w' w'' w0 : World}

/-- .. and what it has read -/
structure RP (bs : List Nat) (g : GS) (r : List Int) (last : Bool) : Prop where
  p : g.p.2 = false
  a : (argsR bs g.many g.p).2.2 = false
  few : g.many ≤ 8
  none : last = false → g.many = 0
  k : r.length = g.k
  A : g.A = r.getD 0 0
  B : g.B = r.getD 1 0
  C : g.C = r.getD 2 0
section
variable {wr wr' : World} {x0 : Nat} {g : GS} {rv av rv' av' : Value} {r l : List Int}
end

theorem lastL (n : Nat) (h : n < 33) (k : Nat) (hk : k < (shapeOf n).size) (hc : (shapeOf n)[k]'hk = 108) : k + 1 = (shapeOf n).size := by
  have h1 := shape_l n h
  rw [List.all_eq_true] at h1
  have h2 := h1 k (by rw [List.mem_range, blen]; exact hk)
  rw [blen] at h2
  have h3 : (shapeOf n).data.toList.getD k 0 = (shapeOf n)[k]'hk := by
    rw [List.getD_eq_getElem?_getD, List.getElem?_eq_getElem (by rw [blen]; exact hk)]; rfl
  rw [h3, hc] at h2
  simpa using h2
theorem lastI (x : Nat) (k : Nat) (hk : k < (shapeI x).size) (hc : (shapeI x)[k]'hk = 108) : k + 1 = (shapeI x).size := by
  by_cases h : 0 ≤ (x : Int) ∧ (x : Int) < 33
  · have e : shapeI x = shapeOf x := by unfold shapeI; rw [if_pos h, Int.toNat_natCast]
    have hx : x < 33 := by omega
    revert hk hc
    rw [e]
    intro hk hc
    exact lastL x hx k hk hc
  · have e : shapeI x = ⟨#[]⟩ := by unfold shapeI; rw [if_neg h]
    revert hk hc
    rw [e]
    intro hk hc
    exact absurd hk (by simp [ByteArray.size])

end Go.Proofs.YtihnkijeefkefaaGreat

import Derived.Test.YtihnkijeefkefaaGreatLE
import Derived.Defers
set_option linter.unusedSimpArgs false
set_option linter.unusedVariables false
set_option linter.unusedSectionVars false
set_option linter.unnecessarySimpa false
set_option maxRecDepth 100000
namespace Go.Proofs.YtihnkijeefkefaaGreat
open Go.RowKit

attribute [local go_sem] Program.isFuncB Program.isSliceB

variable {w w' w'' w0 : World}

/-- so many bytes from a place on, as a number, and what is left of the reader: its place, and whether it is short -/
def takeR (bs : List Nat) (n : Nat) (p : Nat × Bool) : Nat × Nat × Bool :=
  if p.2 = true ∨ bs.length < p.1 + n then (0, p.1, true) else (unle ((bs.drop p.1).take n), p.1 + n, false)

theorem reads_sub {v : Value} {l : List Nat} {a n : Nat} (h : Reads w v 1 l.length (u8s l)) (hn : 0 < n) (hl : a + n ≤ l.length) : ∃ b o c, v = .slice (some ⟨b, o, none⟩) l.length c ∧ l.length ≤ c ∧ Reads w (.slice (some ⟨b, o + a, none⟩) n (c - a)) 1 n (u8s ((l.drop a).take n)) := by
  rcases h with ⟨_, h0, _⟩ | ⟨ad, cap, rfl, h1, h2, h3, h4⟩
  · omega
  · obtain ⟨b, o, rfl⟩ : ∃ b o, ad = ⟨b, o, none⟩ := by
      have h5 := h4 0 (.int .u8 (l[0]'(by omega) : Nat)) (by simp only [u8s, List.getElem?_map]; rw [List.getElem?_eq_getElem (by omega)]; rfl)
      have := spot_none h5
      rw [show ad.add 0 = ad from by unfold Addr.add; simp] at this
      exact ⟨_, _, this⟩
    refine ⟨b, o, cap, rfl, h1, .inr ⟨_, _, rfl, by omega, by omega, by rw [u8s_len]; simp; omega, fun j u hu => ?_⟩⟩
    rw [Addr.add_lit]
    have hj : j < n := by
      have := (List.getElem?_eq_some_iff.1 hu).1
      rw [u8s_len] at this
      simp at this; omega
    have h5 := h4 (a + j) u (by
      simp only [u8s, List.getElem?_map, List.getElem?_take, List.getElem?_drop] at hu ⊢
      rw [if_pos hj] at hu
      exact hu)
    rw [Addr.add_lit] at h5
    rw [Nat.add_assoc]
    exact h5

end Go.Proofs.YtihnkijeefkefaaGreat

namespace Go.Proofs.YtihnkijeefkefaaGreat
open Go.RowKit

attribute [local go_sem] Program.isFuncB Program.isSliceB

variable {w w' w'' w0 : World}

theorem elem_ne {a b : Nat} {c1 c2 : Array Value} {t1 t2 : TypeId} (h1 : w.heap[a]? = some (.cells c1 t1 (0, 0))) (h2 : w.heap[b]? = some (.cells c2 t2 (0, 0))) (h : t1 ≠ t2) : a ≠ b := by
  rintro rfl
  rw [h1] at h2
  simp at h2
  exact h h2.2

def zeroIns : Array Value := #[.int .i64 0, .int .i64 0, .int .i64 0, .int .i64 0, .int .i64 0, .slice none 0 0]

end Go.Proofs.YtihnkijeefkefaaGreat

namespace Go.Proofs.YtihnkijeefkefaaGreat
open Go.RowKit

attribute [local go_sem] Program.isFuncB Program.isSliceB

variable {w w' w'' w0 : World}

/-! ### which instruction bytes are -/
def sgn (x : Nat) : Int := if x < 9223372036854775808 then (x : Int) else (x : Int) - 18446744073709551616
theorem wrap_sgn (x : Nat) (h : x < 18446744073709551616) : IntKind.i64.wrap (x : Int) = sgn x := by
  rw [IntKind.wrap_i64]; unfold sgn; split <;> omega
structure GS where
  A : Int
  B : Int
  C : Int
  N : Int
  k : Nat
  many : Nat
  p : Nat × Bool
def GS.put (g : GS) (c : UInt8) (z : Int) (p : Nat × Bool) : GS :=
  if regB c.toNat = true then (match g.k with
    | 0 => { g with A := z, k := 1, p := p }
    | 1 => { g with B := z, k := 2, p := p }
    | _ => { g with C := z, k := g.k + 1, p := p })
  else { g with N := z, p := p }
def stepG (bs : List Nat) (g : GS) (c : UInt8) : GS :=
  if c = 108 then { g with many := (takeR bs 1 g.p).1, p := (takeR bs 1 g.p).2 }
  else g.put c (sgn (takeR bs (widthOf c.toNat) g.p).1) (takeR bs (widthOf c.toNat) g.p).2
def startG (p : Nat × Bool) : GS := ⟨0, 0, 0, 0, 0, 0, p⟩
def runG (bs : List Nat) (p : Nat × Bool) (s : List UInt8) : GS := s.foldl (stepG bs) (startG p)
theorem runG_snoc (bs : List Nat) (p : Nat × Bool) (s : List UInt8) (c : UInt8) : runG bs p (s ++ [c]) = stepG bs (runG bs p s) c := by simp [runG]
def argsR (bs : List Nat) : Nat → Nat × Bool → List Int × (Nat × Bool)
  | 0, p => ([], p)
  | n + 1, p => ((argsR bs n p).1 ++ [((takeR bs 1 (argsR bs n p).2).1 : Int)], (takeR bs 1 (argsR bs n p).2).2)
theorem argsR_len (bs : List Nat) : ∀ (n : Nat) (p : Nat × Bool), (argsR bs n p).1.length = n
  | 0, _ => rfl
  | n + 1, p => by simp [argsR, argsR_len bs n p]

structure Gt where
  ix : Ix
  next : Int
  er : Int
  fa : Int
def failG (er fa : Int) : Gt := ⟨⟨0, 0, 0, 0, 0, []⟩, 0, er, fa⟩
def getR (bs : List Nat) (at' : Int) : Gt :=
  if at' < 0 ∨ (bs.length : Int) < at' then failG 2 0
  else if (takeR bs 1 (at'.toNat, false)).2.2 = true then failG 4 bs.length
  else if 33 ≤ (takeR bs 1 (at'.toNat, false)).1 then failG 16 at'
  else
    let o := (takeR bs 1 (at'.toNat, false)).1
    let g := runG bs (takeR bs 1 (at'.toNat, false)).2 (sh o)
    if g.p.2 = true then failG 4 bs.length
    else if 8 < g.many then failG 3 at'
    else if (argsR bs g.many g.p).2.2 = true then failG 4 bs.length
    else if checkOf o g.A g.B g.C g.N (argsR bs g.many g.p).1 64 4096 ≠ 0 then failG 5 at'
    else ⟨⟨o, g.A, g.B, g.C, g.N, (argsR bs g.many g.p).1⟩, (argsR bs g.many g.p).2.1, 0, 0⟩

theorem takeR_small (bs : List Nat) (p : Nat × Bool) (hb : ∀ b ∈ bs, b < 256) : (takeR bs 1 p).1 < 256 := by
  unfold takeR
  split
  · exact Nat.zero_lt_succ _
  · have := unle_lt ((bs.drop p.1).take 1) (fun b hb' => hb b (List.mem_of_mem_drop (List.mem_of_mem_take hb')))
    have h2 : 256 ^ ((bs.drop p.1).take 1).length ≤ 256 ^ 1 := Nat.pow_le_pow_right (by decide) (by simp; omega)
    show unle _ < 256
    omega
theorem takeR_lt (bs : List Nat) (n : Nat) (p : Nat × Bool) (hb : ∀ b ∈ bs, b < 256) (hn : n ≤ 8) : (takeR bs n p).1 < 18446744073709551616 := by
  unfold takeR
  split
  · exact Nat.zero_lt_succ _
  · have := unle_lt ((bs.drop p.1).take n) (fun b hb' => hb b (List.mem_of_mem_drop (List.mem_of_mem_take hb')))
    have h2 : 256 ^ ((bs.drop p.1).take n).length ≤ 256 ^ 8 := Nat.pow_le_pow_right (by decide) (by simp; omega)
    show unle _ < _
    omega

theorem results_get {P : Program} {fn : Func} {tmps : Array Value} {w : World} {d1 d2 d3 : Tmp} {t1 t2 t3 : TypeId} {a1 a2 a3 : Addr} {v1 v2 v3 : Value} (hr : fn.results = #[.cell d1 t1, .cell d2 t2, .cell d3 t3])
    (h1 : tmps.getD d1 undef = .pointer (some a1)) (h2 : tmps.getD d2 undef = .pointer (some a2)) (h3 : tmps.getD d3 undef = .pointer (some a3))
    (l1 : (loadVar t1 a1).run P w = .ok v1 w) (l2 : (loadVar t2 a2).run P w = .ok v2 w) (l3 : (loadVar t3 a3).run P w = .ok v3 w) : (results fn tmps).run P w = .ok (.tuple #[v1, v2, v3]) w := by
  have h1' : tmps[d1]?.getD undef = .pointer (some a1) := by rw [← h1]; simp [Array.getD_eq_getD_getElem?]
  have h2' : tmps[d2]?.getD undef = .pointer (some a2) := by rw [← h2]; simp [Array.getD_eq_getD_getElem?]
  have h3' : tmps[d3]?.getD undef = .pointer (some a3) := by rw [← h3]; simp [Array.getD_eq_getD_getElem?]
  simp only [results, hr]
  simp [h1', h2', h3', asAddr, l1, l2, l3]

theorem load_int (w : World) (b : Nat) (z : Int) (h : w.heap[b]? = some (.cells #[.int .i64 z] 3 (0, 0))) : (loadVar 3 ⟨b, 0, none⟩).run Tryz.prog w = .ok (.int .i64 z) w := by
  have hc : w.cell? ⟨b, 0, none⟩ = some (.int .i64 z) := cell_of_heap h rfl
  simp [loadVar, go_sem, hc]

end Go.Proofs.YtihnkijeefkefaaGreat

namespace Go.Proofs.YtihnkijeefkefaaGreat
open Go.RowKit

attribute [local go_sem] Program.isFuncB Program.isSliceB

variable {w w' w'' w0 : World}

/-- what Get is handed -/
structure Bytes (w : World) (bv : Value) (bs : List Nat) : Prop where
  reads : Reads w bv 1 bs.length (u8s bs)
  small : ∀ b ∈ bs, b < 256
  len : bs.length ≤ 100000
  old : ∀ k, bv.ownBlock = some k → k < w.heap.size

end Go.Proofs.YtihnkijeefkefaaGreat

namespace Go.Proofs.YtihnkijeefkefaaGreat
open Go.RowKit

attribute [local go_sem] Program.isFuncB Program.isSliceB

variable {w w' w'' w0 : World}

def insC (o : Nat) (g : GS) (u : Value) : Array Value := #[.int .i64 o, .int .i64 g.A, .int .i64 g.B, .int .i64 g.C, .int .i64 g.N, u]
theorem put_cells (o : Nat) (g : GS) (c : UInt8) (z : Int) (p : Nat × Bool) (u : Value) (hk : g.k < 3) : (insC o g u).setIfInBounds (placeI c.toNat g.k) (.int .i64 z) = insC o (g.put c z p) u := by
  unfold placeI GS.put
  cases regB c.toNat with
  | false => rfl
  | true =>
    obtain ⟨A, B, C, N, k, many, q⟩ := g
    dsimp only at hk ⊢
    obtain rfl | rfl | rfl : k = 0 ∨ k = 1 ∨ k = 2 := by omega
    all_goals rfl
theorem put_k (g : GS) (c : UInt8) (z : Int) (p : Nat × Bool) : (g.put c z p).k = (if regB c.toNat = true then g.k + 1 else g.k) ∧ (g.put c z p).p = p ∧ (g.put c z p).many = g.many := by
  unfold GS.put
  cases regB c.toNat with
  | false => exact ⟨rfl, rfl, rfl⟩
  | true =>
    obtain ⟨A, B, C, N, k, many, q⟩ := g
    match k with
    | 0 => exact ⟨rfl, rfl, rfl⟩
    | 1 => exact ⟨rfl, rfl, rfl⟩
    | k + 2 => exact ⟨rfl, rfl, rfl⟩
theorem stepG_k (bs : List Nat) (g : GS) (c : UInt8) (hb : ∀ b ∈ bs, b < 256) : (stepG bs g c).k ≤ g.k + 1 ∧ (g.many < 256 → (stepG bs g c).many < 256) := by
  unfold stepG
  split
  · exact ⟨by simp, fun _ => takeR_small bs g.p hb⟩
  · rw [(put_k _ _ _ _).1, (put_k _ _ _ _).2.2]
    refine ⟨?_, id⟩
    split <;> omega
theorem runG_k (bs : List Nat) (p : Nat × Bool) (hb : ∀ b ∈ bs, b < 256) : ∀ (n : Nat) (s : List UInt8), s.length = n → (runG bs p s).k ≤ n ∧ (runG bs p s).many < 256
  | 0, s, h => by rw [List.length_eq_zero_iff.1 h]; exact ⟨Nat.le_refl _, Nat.zero_lt_succ _⟩
  | n + 1, s, h => by
    have hne : s ≠ [] := by rintro rfl; simp at h
    rw [← List.dropLast_concat_getLast hne, runG_snoc]
    have ih := runG_k bs p hb n s.dropLast (by simp [h])
    have := stepG_k bs (runG bs p s.dropLast) (s.getLast hne) hb
    exact ⟨by omega, this.2 ih.2⟩

section
variable {wr wr' : World} {it k o : Nat} {s : ByteArray} {g : GS} {p p' : Nat × Bool} {bv : Value} {bs : List Nat}
end

/-- what Get hands back -/
def resV (t : Gt) (u : Value) : Value := .tuple #[.agg #[.int .i64 t.ix.o, .int .i64 t.ix.A, .int .i64 t.ix.B, .int .i64 t.ix.C, .int .i64 t.ix.N, u], .int .i64 t.next, .agg #[.int .i64 t.er, .int .i64 t.fa]]
def GotR (w : World) (t : Gt) (e : Ending) (w' : World) : Prop := ∃ u, e = .returned (resV t u) ∧ w'.ownsRow w.heap.size 3 1 u t.ix.l.length (ints t.ix.l) ∧ Fr no w w'
theorem got_fail (w w' : World) (er fa : Int) (h : Fr no w w') : GotR w (failG er fa) (.returned (.tuple #[.agg zeroIns, .int .i64 0, .agg #[.int .i64 er, .int .i64 fa]])) w' :=
  ⟨.slice none 0 0, rfl, World.ownsRow_nil _ _ _ _, h⟩

end Go.Proofs.YtihnkijeefkefaaGreat

namespace Go.Proofs.YtihnkijeefkefaaGreat
open Go.RowKit

attribute [local go_sem] Program.isFuncB Program.isSliceB

variable {w w' w'' w0 : World}

end Go.Proofs.YtihnkijeefkefaaGreat

namespace Go.Proofs.YtihnkijeefkefaaGreat
open Go.RowKit

attribute [local go_sem] Program.isFuncB Program.isSliceB

variable {w w' w'' w0 : World}

/-! ### plain facts of reading on -/
end Go.Proofs.YtihnkijeefkefaaGreat

namespace Go.Proofs.YtihnkijeefkefaaGreat
open Go.RowKit

attribute [local go_sem] Program.isFuncB Program.isSliceB

variable {w w' w'' w0 : World}

section
variable {wr wr' : World} {x0 : Nat} {g : GS} {rv av rv' av' : Value} {r l : List Int}
end

end Go.Proofs.YtihnkijeefkefaaGreat

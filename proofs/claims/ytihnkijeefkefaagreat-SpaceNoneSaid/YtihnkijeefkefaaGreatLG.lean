import Derived.Test.YtihnkijeefkefaaGreatLF
set_option linter.unusedSimpArgs false
set_option linter.unusedVariables false
set_option linter.unusedSectionVars false
set_option linter.unnecessarySimpa false
set_option maxRecDepth 100000
namespace Go.Proofs.YtihnkijeefkefaaGreat
open Go.RowKit

attribute [local go_sem] Program.isFuncB Program.isSliceB

variable {w w' w'' w0 : World}

theorem Bytes.at {w : World} {sa : Option Addr} {c : Nat} {bs : List Nat} (h : Bytes w (.slice sa bs.length c) bs) (k : Nat) (hk : k < bs.length) : ∃ b o, sa = some ⟨b, o, none⟩ ∧ w.cell? ⟨b, o + k, none⟩ = some (.int .u8 (bs[k] : Nat)) := reads_u8 h.reads hk
theorem Bytes.fr {w w' : World} {bv : Value} {bs : List Nat} (h : Bytes w bv bs) (r : Fr no w w') : Bytes w' bv bs :=
  ⟨h.reads.fr r (by simp), h.small, h.len, fun k hk => Nat.lt_of_lt_of_le (h.old k hk) r.size⟩

theorem three (rl : List Int) (i : Nat) (hi : i < 3) (h : i < (rl ++ [0, 0, 0]).length) : (rl ++ [0, 0, 0])[i] = rl.getD i 0 := by
  by_cases h1 : i < rl.length
  · rw [List.getElem_append_left h1, List.getD_eq_getElem?_getD, List.getElem?_eq_getElem h1]; rfl
  · rw [List.getElem_append_right (by omega), List.getD_eq_getElem?_getD, List.getElem?_eq_none (by omega)]
    obtain h | h | h : i - rl.length = 0 ∨ i - rl.length = 1 ∨ i - rl.length = 2 := by omega
    all_goals simp [h]
theorem RP.reg {bs : List Nat} {g : GS} {r : List Int} {last last' : Bool} {c : UInt8} {z : Int} {p : Nat × Bool} (h : RP bs g r last) (hm : g.many = 0) (hk : g.k < 3) (hp : p.2 = false) (hc : regB c.toNat = true) : RP bs (g.put c z p) (r ++ [z]) last' := by
  obtain ⟨A, B, C, N, k, many, q⟩ := g
  obtain rfl : many = 0 := hm
  obtain ⟨-, -, -, -, h5, h6, h7, h8⟩ := h
  dsimp only at h5 h6 h7 h8 hk
  unfold GS.put
  rw [if_pos hc]
  match k, r, h5, hk with
  | 0, [], _, _ => exact ⟨hp, hp, Nat.zero_le _, fun _ => rfl, rfl, rfl, h7, h8⟩
  | 1, [a], _, _ => exact ⟨hp, hp, Nat.zero_le _, fun _ => rfl, rfl, h6, rfl, h8⟩
  | 2, [a, b], _, _ => exact ⟨hp, hp, Nat.zero_le _, fun _ => rfl, rfl, h6, h7, rfl⟩
theorem RP.non {bs : List Nat} {g : GS} {r : List Int} {last last' : Bool} {c : UInt8} {z : Int} {p : Nat × Bool} (h : RP bs g r last) (hm : g.many = 0) (hp : p.2 = false) (hc : regB c.toNat = false) : RP bs (g.put c z p) r last' := by
  obtain ⟨A, B, C, N, k, many, q⟩ := g
  obtain rfl : many = 0 := hm
  unfold GS.put
  rw [if_neg (by rw [hc]; simp)]
  exact ⟨hp, hp, Nat.zero_le _, fun _ => rfl, h.k, h.A, h.B, h.C⟩

theorem takeR_le (bs : List Nat) (n : Nat) (p : Nat × Bool) (h : p.1 ≤ bs.length) : (takeR bs n p).2.1 ≤ bs.length := by
  unfold takeR
  split
  · exact h
  · rename_i hn
    exact Nat.le_of_not_lt (fun hh => hn (.inr hh))
theorem stepG_le (bs : List Nat) (g : GS) (c : UInt8) (h : g.p.1 ≤ bs.length) : (stepG bs g c).p.1 ≤ bs.length := by
  unfold stepG
  split
  · exact takeR_le bs 1 g.p h
  · rw [(put_k _ _ _ _).2.1]; exact takeR_le bs _ g.p h
theorem fold_le (bs : List Nat) : ∀ (s : List UInt8) (g : GS), g.p.1 ≤ bs.length → (s.foldl (stepG bs) g).p.1 ≤ bs.length
  | [], g, h => h
  | c :: s, g, h => fold_le bs s _ (stepG_le bs g c h)
theorem runG_le (bs : List Nat) (p : Nat × Bool) (s : List UInt8) (h : p.1 ≤ bs.length) : (runG bs p s).p.1 ≤ bs.length := fold_le bs s _ h

end Go.Proofs.YtihnkijeefkefaaGreat

namespace Go.Proofs.YtihnkijeefkefaaGreat
open Go.RowKit

attribute [local go_sem] Program.isFuncB Program.isSliceB

variable {w w' w'' w0 : World}

/-! ### Get at any place, and what it tells -/
theorem takeR_ge (bs : List Nat) (n : Nat) (p : Nat × Bool) : p.1 ≤ (takeR bs n p).2.1 := by
  unfold takeR
  split
  · exact Nat.le_refl _
  · exact Nat.le_add_right _ _
theorem stepG_ge (bs : List Nat) (g : GS) (c : UInt8) : g.p.1 ≤ (stepG bs g c).p.1 := by
  unfold stepG
  split
  · exact takeR_ge bs 1 g.p
  · rw [(put_k _ _ _ _).2.1]; exact takeR_ge bs _ g.p
theorem fold_ge (bs : List Nat) : ∀ (s : List UInt8) (g : GS), g.p.1 ≤ (s.foldl (stepG bs) g).p.1
  | [], g => Nat.le_refl _
  | c :: s, g => Nat.le_trans (stepG_ge bs g c) (fold_ge bs s _)
theorem runG_ge (bs : List Nat) (p : Nat × Bool) (s : List UInt8) : p.1 ≤ (runG bs p s).p.1 := fold_ge bs s (startG p)
theorem argsR_ge (bs : List Nat) : ∀ (n : Nat) (p : Nat × Bool), p.1 ≤ (argsR bs n p).2.1
  | 0, p => Nat.le_refl _
  | n + 1, p => Nat.le_trans (argsR_ge bs n p) (takeR_ge bs 1 _)
theorem argsR_le (bs : List Nat) : ∀ (n : Nat) (p : Nat × Bool), p.1 ≤ bs.length → (argsR bs n p).2.1 ≤ bs.length
  | 0, p, h => h
  | n + 1, p, h => takeR_le bs 1 _ (argsR_le bs n p h)

structure Fit (bs : List Nat) (at' : Int) (t : Gt) : Prop where
  at_ : 0 ≤ at'
  next : ∃ n : Nat, t.next = n ∧ at' < n ∧ n ≤ bs.length
  few : t.ix.l.length ≤ 8
  op : 0 ≤ t.ix.o
  ck : ckOf t.ix = 0
  fa : t.fa = 0
theorem getR_cases (bs : List Nat) (at' : Int) : ((getR bs at').er = 0 ∧ Fit bs at' (getR bs at')) ∨ ((getR bs at').er ≠ 0 ∧ (getR bs at').ix = ⟨0, 0, 0, 0, 0, []⟩ ∧ (getR bs at').next = 0 ∧ 0 ≤ (getR bs at').fa ∧ (getR bs at').fa ≤ bs.length) := by
  unfold getR
  by_cases c1 : at' < 0 ∨ (bs.length : Int) < at'
  · rw [if_pos c1]; exact .inr ⟨by show (2 : Int) ≠ 0; decide, rfl, rfl, by show (0 : Int) ≤ 0; decide, by show (0 : Int) ≤ _; omega⟩
  rw [if_neg c1]
  obtain ⟨a, rfl⟩ : ∃ n : Nat, at' = n := ⟨at'.toNat, by omega⟩
  rw [Int.toNat_natCast]
  by_cases c2 : (takeR bs 1 (a, false)).2.2 = true
  · rw [if_pos c2]; exact .inr ⟨by show (4 : Int) ≠ 0; decide, rfl, rfl, by show (0 : Int) ≤ bs.length; omega, by show (bs.length : Int) ≤ _; omega⟩
  rw [if_neg c2]
  have hlt : a + 1 ≤ bs.length := by
    rcases Nat.lt_or_ge bs.length (a + 1) with h | h
    · exact (c2 (by rw [takeR_short bs 1 a h])).elim
    · exact h
  have hfail : ∀ er : Int, er ≠ 0 → ∀ fa : Int, fa = a ∨ fa = bs.length → ((failG er fa).er ≠ 0 ∧ (failG er fa).ix = ⟨0, 0, 0, 0, 0, []⟩ ∧ (failG er fa).next = 0 ∧ 0 ≤ (failG er fa).fa ∧ (failG er fa).fa ≤ bs.length) := by
    intro er h1 fa h2
    refine ⟨h1, rfl, rfl, ?_, ?_⟩
    · show 0 ≤ fa; omega
    · show fa ≤ _; omega
  have e0 := takeR_one bs a hlt
  rw [e0]
  dsimp only
  generalize bs[a] = x0 at *
  by_cases c3 : 33 ≤ x0
  · rw [if_pos c3]; exact .inr (hfail 16 (by decide) _ (.inl rfl))
  rw [if_neg c3]
  have g1 := runG_ge bs (a + 1, false) (sh x0)
  have g2 := runG_le bs (a + 1, false) (sh x0) hlt
  generalize runG bs (a + 1, false) (sh x0) = g at *
  have g3 := argsR_ge bs g.many g.p
  have g4 := argsR_le bs g.many g.p g2
  have g5 := argsR_len bs g.many g.p
  generalize argsR bs g.many g.p = ar at *
  by_cases c4 : g.p.2 = true
  · rw [if_pos c4]; exact .inr (hfail 4 (by decide) _ (.inr rfl))
  rw [if_neg c4]
  by_cases c5 : 8 < g.many
  · rw [if_pos c5]; exact .inr (hfail 3 (by decide) _ (.inl rfl))
  rw [if_neg c5]
  by_cases c6 : ar.2.2 = true
  · rw [if_pos c6]; exact .inr (hfail 4 (by decide) _ (.inr rfl))
  rw [if_neg c6]
  by_cases c7 : checkOf x0 g.A g.B g.C g.N ar.1 64 4096 ≠ 0
  · rw [if_pos c7]; exact .inr (hfail 5 (by decide) _ (.inl rfl))
  rw [if_neg c7]
  refine .inl ⟨rfl, by omega, ⟨ar.2.1, rfl, by dsimp only at g1; omega, g4⟩, by show ar.1.length ≤ 8; omega, by show (0 : Int) ≤ x0; omega, by show checkOf x0 g.A g.B g.C g.N ar.1 64 4096 = 0; exact Classical.not_not.1 c7, rfl⟩

/-! ### what bytes are split into -/
structure Sp where
  is : List Ix
  ps : List Int
  er : Int
  fa : Int
def splitR (bs : List Nat) : Nat → List Ix → List Int → Nat → Sp
  | 0, is, ps, _ => ⟨is, ps, 0, 0⟩
  | f + 1, is, ps, a => if bs.length ≤ a then ⟨is, ps, 0, 0⟩ else if (getR bs a).er ≠ 0 then ⟨[], [], (getR bs a).er, (getR bs a).fa⟩
      else splitR bs f (is ++ [(getR bs a).ix]) (ps ++ [(a : Int)]) (getR bs a).next.toNat
def spR (bs : List Nat) : Sp := if 4096 < bs.length then ⟨[], [], 3, 4096⟩ else splitR bs (bs.length + 1) [] [] 0

end Go.Proofs.YtihnkijeefkefaaGreat

namespace Go.Proofs.YtihnkijeefkefaaGreat
open Go.RowKit

attribute [local go_sem] Program.isFuncB Program.isSliceB

variable {w w' w'' w0 : World}

/-! ### instructions in an array of the call's own -/
def cellsOf (l : List (Ix × Value)) : List Value := l.flatMap (fun p => p.1.cells p.2)
theorem cellsOf_snoc (l : List (Ix × Value)) (p : Ix × Value) : cellsOf (l ++ [p]) = cellsOf l ++ p.1.cells p.2 := by simp [cellsOf]
theorem Tryz.infoIns3 : (Tryz.prog.info? 112).map (fun i => (i.zero, i.size, i.bytes)) = some (some (.agg zeroIns), 6, 64) := by kernel_rfl
theorem reads_six (w : World) (a0 a1 a2 a3 a4 a5 : Value) (e : TypeId) : Reads (w.alloc (.cells #[a0, a1, a2, a3, a4, a5] e)) (.slice (some ⟨w.heap.size, 0, none⟩) 1 1) 6 1 [a0, a1, a2, a3, a4, a5] := by
  refine .inr ⟨_, 1, rfl, Nat.le_refl _, by unfold maxLen; omega, rfl, fun j u hu => ?_⟩
  rw [Addr.add_lit]
  refine cell_of_heap (heap_new w _) ?_
  rw [Nat.zero_add]
  simpa using hu
theorem six_one (o A B C N : Int) (l : Nat) (ua : Option Addr) (uc : Nat) (_ : Unit) : ∀ v ∈ [Value.int .i64 o, .int .i64 A, .int .i64 B, .int .i64 C, .int .i64 N, .slice ua l uc], v.oneCell' = true := by
  intro v hv
  simp only [List.mem_cons, List.not_mem_nil, or_false] at hv
  rcases hv with rfl | rfl | rfl | rfl | rfl | rfl <;> rfl
theorem results_sp {P : Program} {fn : Func} {tmps : Array Value} {w : World} {d1 d2 d3 : Tmp} {t3 : TypeId} {a3 : Addr} {v1 v2 v3 : Value} (hr : fn.results = #[.tmp d1, .tmp d2, .cell d3 t3])
    (h1 : tmps.getD d1 undef = v1) (h2 : tmps.getD d2 undef = v2) (h3 : tmps.getD d3 undef = .pointer (some a3)) (l3 : (loadVar t3 a3).run P w = .ok v3 w) : (results fn tmps).run P w = .ok (.tuple #[v1, v2, v3]) w := by
  have h1' : tmps[d1]?.getD undef = v1 := by rw [← h1]; simp [Array.getD_eq_getD_getElem?]
  have h2' : tmps[d2]?.getD undef = v2 := by rw [← h2]; simp [Array.getD_eq_getD_getElem?]
  have h3' : tmps[d3]?.getD undef = .pointer (some a3) := by rw [← h3]; simp [Array.getD_eq_getD_getElem?]
  simp only [results, hr]
  simp [h1', h2', h3', asAddr, l3]
section
variable {wr wr' : World} {x y x' y' : Value} {l : List (Ix × Value)} {ps : List Int}
end

/-- what Split hands back -/
def SplitR (w : World) (sp : Sp) (e : Ending) (w' : World) : Prop := ∃ (u v : Value) (l : List (Ix × Value)), e = .returned (.tuple #[u, v, .agg #[.int .i64 sp.er, .int .i64 sp.fa]]) ∧ l.map Prod.fst = sp.is ∧
  w'.ownsRow (w.heap.size + 1) 112 6 u l.length (cellsOf l) ∧ (∀ p ∈ l, w'.ownsRow (w.heap.size + 1) 3 1 p.2 p.1.l.length (ints p.1.l)) ∧ (∀ p ∈ l, ∀ k, p.2.ownBlock = some k → u.ownBlock ≠ some k) ∧
  (∀ p ∈ l, ∀ k, p.2.ownBlock = some k → v.ownBlock ≠ some k) ∧ w'.ownsRow (w.heap.size + 1) 3 1 v sp.ps.length (ints sp.ps) ∧ (∀ k, u.ownBlock = some k → v.ownBlock ≠ some k) ∧ Fr no w w'

end Go.Proofs.YtihnkijeefkefaaGreat

namespace Go.Proofs.YtihnkijeefkefaaGreat
open Go.RowKit

attribute [local go_sem] Program.isFuncB Program.isSliceB

variable {w w' w'' w0 : World}


end Go.Proofs.YtihnkijeefkefaaGreat

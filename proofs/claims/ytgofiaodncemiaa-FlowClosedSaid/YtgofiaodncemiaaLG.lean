import Derived.Test.YtgofiaodncemiaaLF
set_option linter.unusedSimpArgs false
set_option linter.unusedVariables false
set_option linter.unusedSectionVars false
set_option linter.unnecessarySimpa false
namespace Go.Proofs.Ytgofiaodncemiaa
open Go.RowKit

attribute [local go_sem] Program.isFuncB Program.isSliceB

variable {w w' w'' w0 : World}

theorem Bytes.at {w : World} {sa : Option Addr} {c : Nat} {bs : List Nat} (h : Bytes w (.slice sa bs.length c) bs) (k : Nat) (hk : k < bs.length) : ∃ b o, sa = some ⟨b, o, none⟩ ∧ w.cell? ⟨b, o + k, none⟩ = some (.int .u8 (bs[k] : Nat)) := reads_u8 h.reads hk
theorem Bytes.fr {w w' : World} {bv : Value} {bs : List Nat} (h : Bytes w bv bs) (r : Fr no w w') : Bytes w' bv bs :=
  ⟨h.reads.fr r (by simp), h.small, h.len, fun k hk => Nat.lt_of_lt_of_le (h.old k hk) r.size⟩

theorem RI.re {wr : World} {x0 : Nat} {g g' : GS} {rv av : Value} {r l : List Int} (h : RI w wr x0 g rv av r l) (hN : g'.N = g.N) : RI w wr x0 g' rv av r l :=
  ⟨h.rw_, by rw [hN]; exact h.var, h.regs, h.args, h.ap⟩
theorem RI.re' {wr : World} {x0 : Nat} {g g' : GS} {rv av : Value} {r l l' : List Int} (h : RI w wr x0 g rv av r l) (hN : g'.N = g.N) (hl : l' = l) : RI w wr x0 g' rv av r l' := by subst hl; exact h.re hN
theorem RI.appRs {wr wr' : World} {x0 : Nat} {g : GS} {rv av rv' : Value} {r l : List Int} (news : List Int) (h : RI w wr x0 g rv av r l) (ho : wr'.ownsRow (w.heap.size + 3) 3 1 rv' (r.length + news.length) (ints r ++ ints news)) (hg : wr.grownBy wr' rv.ownBlock)
    (hb : ∀ k, rv'.ownBlock = some k → rv.ownBlock = some k ∨ k = wr.heap.size) : RI w wr' x0 g rv' av (r ++ news) l := by
  have q : Fr (fun k => rv.ownBlock = some k) wr wr' := (Fr.refl _ wr).grown hg (fun k hk => .inl hk)
  have hge := fun k (hk : rv.ownBlock = some k) => (h.regs.lt k hk).1
  refine ⟨⟨q.heap h.rw_.ins (fun e => by have := hge _ e; omega), q.heap h.rw_.fault (fun e => by have := hge _ e; omega), h.rw_.fr.trans' q (fun k hk _ => by have := hge _ hk; omega)⟩, q.heap h.var (fun e => by have := hge _ e; omega), by simpa [ints] using ho,
    owns_fr h.args q (fun k hk e => h.ap k e hk), fun k hk e => ?_⟩
  rcases hb k hk with h2 | rfl
  · exact h.ap k h2 e
  · have := (h.args.lt _ e).2; omega
theorem RI.appA {wr w1 : World} {x0 : Nat} {g : GS} {rv av av' : Value} {r l : List Int} {n : Int} (h : RI w wr x0 g rv av r l) (ho : w1.ownsRow (w.heap.size + 3) 3 1 av' (l.length + 1) (ints l ++ [.int .i64 n])) (hg : wr.grownBy w1 av.ownBlock)
    (hb : ∀ k, av'.ownBlock = some k → av.ownBlock = some k ∨ k = wr.heap.size) : RI w (w1.setCell ⟨w.heap.size + 2, 5, none⟩ av') x0 g rv av' r (l ++ [n]) := by
  have q : Fr (fun k => av.ownBlock = some k) wr w1 := (Fr.refl _ wr).grown hg (fun k hk => .inl hk)
  have hge := fun k (hk : av.ownBlock = some k) => (h.args.lt k hk).1
  have q2 : Fr (only [w.heap.size + 2]) w1 (w1.setCell ⟨w.heap.size + 2, 5, none⟩ av') := (Fr.refl _ _).setCell _ _ (.inl (by simp))
  have hge2 := fun k (hk : av'.ownBlock = some k) => (ho.lt k hk).1
  refine ⟨⟨q2.heap (q.heap h.rw_.ins (fun e => by have := hge _ e; omega)) (by simp), q2.heap (q.heap h.rw_.fault (fun e => by have := hge _ e; omega)) (by simp), (h.rw_.fr.trans' q (fun k hk _ => by have := hge _ hk; omega)).trans' q2 (fun k hk _ => by simp at hk; omega)⟩, ?_,
    owns_fr (owns_fr h.regs q (fun k hk e => h.ap k hk e)) q2 (fun k hk => by have := (h.regs.lt k hk).1; simp; omega), ?_, fun k hk e => ?_⟩
  · exact heap_setCell (q.heap h.var (fun e => by have := hge _ e; omega))
  · have := owns_fr ho q2 (fun k hk => by have := hge2 k hk; simp; omega)
    simpa [ints] using this
  · rcases hb k e with h2 | rfl
    · exact h.ap k hk h2
    · have := (h.regs.lt _ hk).2; omega
theorem RI.setN {wr : World} {x0 : Nat} {g g' : GS} {rv av : Value} {r l : List Int} {z : Int} (h : RI w wr x0 g rv av r l) (hN : g'.N = z) : RI w (wr.setCell ⟨w.heap.size + 2, 4, none⟩ (.int .i64 z)) x0 g' rv av r l := by
  have q2 : Fr (only [w.heap.size + 2]) wr (wr.setCell ⟨w.heap.size + 2, 4, none⟩ (.int .i64 z)) := (Fr.refl _ _).setCell _ _ (.inl (by simp))
  refine ⟨⟨q2.heap h.rw_.ins (by simp), q2.heap h.rw_.fault (by simp), h.rw_.fr.trans' q2 (fun k hk _ => by simp at hk; omega)⟩, by rw [hN]; exact heap_setCell h.var,
    owns_fr h.regs q2 (fun k hk => by have := (h.regs.lt k hk).1; simp; omega), owns_fr h.args q2 (fun k hk => by have := (h.args.lt k hk).1; simp; omega), h.ap⟩

theorem three (rl : List Int) (i : Nat) (hi : i < 3) (h : i < (rl ++ [0, 0, 0]).length) : (rl ++ [0, 0, 0])[i] = rl.getD i 0 := by
  by_cases h1 : i < rl.length
  · rw [List.getElem_append_left h1, List.getD_eq_getElem?_getD, List.getElem?_eq_getElem h1]; rfl
  · rw [List.getElem_append_right (by omega), List.getD_eq_getElem?_getD, List.getElem?_eq_none (by omega)]
    obtain h | h | h : i - rl.length = 0 ∨ i - rl.length = 1 ∨ i - rl.length = 2 := by omega
    all_goals simp [h]
/-- .. and when the registers are in place -/
structure RJ (w wr : World) (x0 : Nat) (g : GS) (av : Value) (l : List Int) : Prop where
  rw_ : RW w wr zeroIns 0 0
  var : wr.heap[w.heap.size + 2]? = some (.cells #[.int .i64 x0, .int .i64 g.A, .int .i64 g.B, .int .i64 g.C, .int .i64 g.N, av] 42 (0, 0))
  args : wr.ownsRow (w.heap.size + 3) 3 1 av l.length (ints l)
theorem RJ.to {wr wr' : World} {x0 : Nat} {g : GS} {av : Value} {l : List Int} (h : RJ w wr x0 g av l) (q : Fr no wr wr') : RJ w wr' x0 g av l :=
  ⟨h.rw_.to q, q.heap h.var (by simp), owns_fr h.args q (by simp)⟩
theorem RI.abc {wr : World} {x0 : Nat} {g : GS} {rv av : Value} {r l : List Int} (h : RI w wr x0 g rv av r l) (A B C : Int) :
    RJ w (((wr.setCell ⟨w.heap.size + 1 + 1, 1, none⟩ (.int .i64 A)).setCell ⟨w.heap.size + 1 + 1, 2, none⟩ (.int .i64 B)).setCell ⟨w.heap.size + 1 + 1, 3, none⟩ (.int .i64 C)) x0 { g with A := A, B := B, C := C } av l := by
  have q : Fr (only [w.heap.size + 2]) wr (((wr.setCell ⟨w.heap.size + 1 + 1, 1, none⟩ (.int .i64 A)).setCell ⟨w.heap.size + 1 + 1, 2, none⟩ (.int .i64 B)).setCell ⟨w.heap.size + 1 + 1, 3, none⟩ (.int .i64 C)) :=
    (((Fr.refl _ _).setCell _ _ (.inl (by simp))).setCell _ _ (.inl (by simp))).setCell _ _ (.inl (by simp))
  exact ⟨⟨q.heap h.rw_.ins (by simp), q.heap h.rw_.fault (by simp), h.rw_.fr.trans' q (fun k hk _ => by simp at hk; omega)⟩, heap_setCell (heap_setCell (heap_setCell h.var)), owns_fr h.args q (fun k hk => by have := (h.args.lt k hk).1; simp; omega)⟩
theorem RJ.set {wr : World} {x0 : Nat} {g : GS} {av : Value} {l : List Int} (h : RJ w wr x0 g av l) (cs cs' : Array Value) : ((wr.setRow w.heap.size cs).setRow (w.heap.size + 1) cs').ownsRow (w.heap.size + 3) 3 1 av l.length (ints l) := by
  have q1 := fr_setRow (g := w.heap.size) (cs := cs) (Fr.refl (only [w.heap.size, w.heap.size + 1]) wr) (.inl (by simp))
  have q2 := fr_setRow (g := w.heap.size + 1) (cs := cs') q1 (.inl (by simp))
  exact owns_fr h.args q2 (fun k hk => by have := (h.args.lt k hk).1; simp; omega)

theorem RP.reg {bs : List Nat} {g : GS} {r : List Int} {last last' : Bool} {c : UInt8} {z : Int} {p : Nat × Bool} (h : RP bs g r last) (hm : g.many = 0) (hk : g.k < 3) (hp : p.2 = false) (hc : regB c.toNat = true) : RP bs (g.put c z p) (r ++ [z]) last' := by
  obtain ⟨A, B, C, N, k, many, q⟩ := g
  obtain rfl : many = 0 := hm
  obtain ⟨-, -, -, -, h5, h6, h7, h8⟩ := h
  dsimp only at h5 h6 h7 h8 hk
  unfold GS.put
  rw [if_pos hc]
  match k, r, h5, hk with
  | 0, [], _, _ => exact ⟨hp, hp, Nat.zero_le _, fun _ => rfl, rfl, rfl, h7, h8⟩
  | 1, [a], _, _ => exact ⟨hp, hp, Nat.zero_le _, fun _ => rfl, rfl, h6, rfl, h8⟩
  | 2, [a, b], _, _ => exact ⟨hp, hp, Nat.zero_le _, fun _ => rfl, rfl, h6, h7, rfl⟩
theorem RP.non {bs : List Nat} {g : GS} {r : List Int} {last last' : Bool} {c : UInt8} {z : Int} {p : Nat × Bool} (h : RP bs g r last) (hm : g.many = 0) (hp : p.2 = false) (hc : regB c.toNat = false) : RP bs (g.put c z p) r last' := by
  obtain ⟨A, B, C, N, k, many, q⟩ := g
  obtain rfl : many = 0 := hm
  unfold GS.put
  rw [if_neg (by rw [hc]; simp)]
  exact ⟨hp, hp, Nat.zero_le _, fun _ => rfl, h.k, h.A, h.B, h.C⟩

theorem takeR_le (bs : List Nat) (n : Nat) (p : Nat × Bool) (h : p.1 ≤ bs.length) : (takeR bs n p).2.1 ≤ bs.length := by
  unfold takeR
  split
  · exact h
  · rename_i hn
    exact Nat.le_of_not_lt (fun hh => hn (.inr hh))
theorem stepG_le (bs : List Nat) (g : GS) (c : UInt8) (h : g.p.1 ≤ bs.length) : (stepG bs g c).p.1 ≤ bs.length := by
  unfold stepG
  split
  · exact takeR_le bs 1 g.p h
  · rw [(put_k _ _ _ _).2.1]; exact takeR_le bs _ g.p h
theorem fold_le (bs : List Nat) : ∀ (s : List UInt8) (g : GS), g.p.1 ≤ bs.length → (s.foldl (stepG bs) g).p.1 ≤ bs.length
  | [], g, h => h
  | c :: s, g, h => fold_le bs s _ (stepG_le bs g c h)
theorem runG_le (bs : List Nat) (p : Nat × Bool) (s : List UInt8) (h : p.1 ≤ bs.length) : (runG bs p s).p.1 ≤ bs.length := fold_le bs s _ h

/-- where the document's Get's loop stands, all of it -/
def GIn (w : World) (bs : List Nat) (x0 : Nat) (g : GS) (last : Bool) (x rv : Value) (wr : World) : Prop :=
  ∃ (rl : List Int) (av : Value), x = .int .i64 ((argsR bs g.many g.p).2.1 : Nat) ∧ RI w wr x0 g rv av rl (argsR bs g.many g.p).1 ∧ RP bs g rl last

end Go.Proofs.Ytgofiaodncemiaa

namespace Go.Proofs.Ytgofiaodncemiaa
open Go.RowKit

attribute [local go_sem] Program.isFuncB Program.isSliceB

variable {w w' w'' w0 : World}

/-! ### Get at any place, and what it tells -/
theorem get_any (w : World) (bv : Value) (bs : List Nat) (at' : Int) (hb : Bytes w bv bs) : Calls Try.prog 29 #[bv, .int .i64 at'] w (GotR w (getR bs at')) := by
  by_cases h : at' < 0 ∨ (bs.length : Int) < at'
  · have : getR bs at' = failG 2 0 := by unfold getR; rw [if_pos h]
    rw [this]
    refine (get_out w bv bs at' hb h).mono ?_
    rintro e w' ⟨rfl, r⟩
    exact got_fail w w' 2 0 r
  · obtain ⟨n, rfl⟩ : ∃ n : Nat, at' = n := ⟨at'.toNat, by omega⟩
    exact get_in w bv bs n hb (by omega)
theorem takeR_ge (bs : List Nat) (n : Nat) (p : Nat × Bool) : p.1 ≤ (takeR bs n p).2.1 := by
  unfold takeR
  split
  · exact Nat.le_refl _
  · exact Nat.le_add_right _ _
theorem stepG_ge (bs : List Nat) (g : GS) (c : UInt8) : g.p.1 ≤ (stepG bs g c).p.1 := by
  unfold stepG
  split
  · exact takeR_ge bs 1 g.p
  · rw [(put_k _ _ _ _).2.1]; exact takeR_ge bs _ g.p
theorem fold_ge (bs : List Nat) : ∀ (s : List UInt8) (g : GS), g.p.1 ≤ (s.foldl (stepG bs) g).p.1
  | [], g => Nat.le_refl _
  | c :: s, g => Nat.le_trans (stepG_ge bs g c) (fold_ge bs s _)
theorem runG_ge (bs : List Nat) (p : Nat × Bool) (s : List UInt8) : p.1 ≤ (runG bs p s).p.1 := fold_ge bs s (startG p)
theorem argsR_ge (bs : List Nat) : ∀ (n : Nat) (p : Nat × Bool), p.1 ≤ (argsR bs n p).2.1
  | 0, p => Nat.le_refl _
  | n + 1, p => Nat.le_trans (argsR_ge bs n p) (takeR_ge bs 1 _)
theorem argsR_le (bs : List Nat) : ∀ (n : Nat) (p : Nat × Bool), p.1 ≤ bs.length → (argsR bs n p).2.1 ≤ bs.length
  | 0, p, h => h
  | n + 1, p, h => takeR_le bs 1 _ (argsR_le bs n p h)

structure Fit (bs : List Nat) (at' : Int) (t : Gt) : Prop where
  at_ : 0 ≤ at'
  next : ∃ n : Nat, t.next = n ∧ at' < n ∧ n ≤ bs.length
  few : t.ix.l.length ≤ 8
  op : 0 ≤ t.ix.o
  ck : ckOf t.ix = 0
  fa : t.fa = 0
theorem getR_cases (bs : List Nat) (at' : Int) : ((getR bs at').er = 0 ∧ Fit bs at' (getR bs at')) ∨ ((getR bs at').er ≠ 0 ∧ (getR bs at').ix = ⟨0, 0, 0, 0, 0, []⟩ ∧ (getR bs at').next = 0 ∧ 0 ≤ (getR bs at').fa ∧ (getR bs at').fa ≤ bs.length) := by
  unfold getR
  by_cases c1 : at' < 0 ∨ (bs.length : Int) < at'
  · rw [if_pos c1]; exact .inr ⟨by show (2 : Int) ≠ 0; decide, rfl, rfl, by show (0 : Int) ≤ 0; decide, by show (0 : Int) ≤ _; omega⟩
  rw [if_neg c1]
  obtain ⟨a, rfl⟩ : ∃ n : Nat, at' = n := ⟨at'.toNat, by omega⟩
  rw [Int.toNat_natCast]
  by_cases c2 : (takeR bs 1 (a, false)).2.2 = true
  · rw [if_pos c2]; exact .inr ⟨by show (4 : Int) ≠ 0; decide, rfl, rfl, by show (0 : Int) ≤ bs.length; omega, by show (bs.length : Int) ≤ _; omega⟩
  rw [if_neg c2]
  have hlt : a + 1 ≤ bs.length := by
    rcases Nat.lt_or_ge bs.length (a + 1) with h | h
    · exact (c2 (by rw [takeR_short bs 1 a h])).elim
    · exact h
  have hfail : ∀ er : Int, er ≠ 0 → ∀ fa : Int, fa = a ∨ fa = bs.length → ((failG er fa).er ≠ 0 ∧ (failG er fa).ix = ⟨0, 0, 0, 0, 0, []⟩ ∧ (failG er fa).next = 0 ∧ 0 ≤ (failG er fa).fa ∧ (failG er fa).fa ≤ bs.length) := by
    intro er h1 fa h2
    refine ⟨h1, rfl, rfl, ?_, ?_⟩
    · show 0 ≤ fa; omega
    · show fa ≤ _; omega
  have e0 := takeR_one bs a hlt
  rw [e0]
  dsimp only
  generalize bs[a] = x0 at *
  by_cases c3 : 33 ≤ x0
  · rw [if_pos c3]; exact .inr (hfail 16 (by decide) _ (.inl rfl))
  rw [if_neg c3]
  have g1 := runG_ge bs (a + 1, false) (sh x0)
  have g2 := runG_le bs (a + 1, false) (sh x0) hlt
  generalize runG bs (a + 1, false) (sh x0) = g at *
  have g3 := argsR_ge bs g.many g.p
  have g4 := argsR_le bs g.many g.p g2
  have g5 := argsR_len bs g.many g.p
  generalize argsR bs g.many g.p = ar at *
  by_cases c4 : g.p.2 = true
  · rw [if_pos c4]; exact .inr (hfail 4 (by decide) _ (.inr rfl))
  rw [if_neg c4]
  by_cases c5 : 8 < g.many
  · rw [if_pos c5]; exact .inr (hfail 3 (by decide) _ (.inl rfl))
  rw [if_neg c5]
  by_cases c6 : ar.2.2 = true
  · rw [if_pos c6]; exact .inr (hfail 4 (by decide) _ (.inr rfl))
  rw [if_neg c6]
  by_cases c7 : checkOf x0 g.A g.B g.C g.N ar.1 64 4096 ≠ 0
  · rw [if_pos c7]; exact .inr (hfail 5 (by decide) _ (.inl rfl))
  rw [if_neg c7]
  refine .inl ⟨rfl, by omega, ⟨ar.2.1, rfl, by dsimp only at g1; omega, g4⟩, by show ar.1.length ≤ 8; omega, by show (0 : Int) ≤ x0; omega, by show checkOf x0 g.A g.B g.C g.N ar.1 64 4096 = 0; exact Classical.not_not.1 c7, rfl⟩

/-! ### what bytes are split into -/
structure Sp where
  is : List Ix
  ps : List Int
  er : Int
  fa : Int
def splitR (bs : List Nat) : Nat → List Ix → List Int → Nat → Sp
  | 0, is, ps, _ => ⟨is, ps, 0, 0⟩
  | f + 1, is, ps, a => if bs.length ≤ a then ⟨is, ps, 0, 0⟩ else if (getR bs a).er ≠ 0 then ⟨[], [], (getR bs a).er, (getR bs a).fa⟩
      else splitR bs f (is ++ [(getR bs a).ix]) (ps ++ [(a : Int)]) (getR bs a).next.toNat
def spR (bs : List Nat) : Sp := if 4096 < bs.length then ⟨[], [], 3, 4096⟩ else splitR bs (bs.length + 1) [] [] 0

end Go.Proofs.Ytgofiaodncemiaa

namespace Go.Proofs.Ytgofiaodncemiaa
open Go.RowKit

attribute [local go_sem] Program.isFuncB Program.isSliceB

variable {w w' w'' w0 : World}

/-! ### instructions in an array of the call's own -/
def cellsOf (l : List (Ix × Value)) : List Value := l.flatMap (fun p => p.1.cells p.2)
theorem cellsOf_snoc (l : List (Ix × Value)) (p : Ix × Value) : cellsOf (l ++ [p]) = cellsOf l ++ p.1.cells p.2 := by simp [cellsOf]
theorem Try.infoIns3 : (Try.prog.info? 42).map (fun i => (i.zero, i.size, i.bytes)) = some (some (.agg zeroIns), 6, 64) := by kernel_rfl
theorem reads_six (w : World) (a0 a1 a2 a3 a4 a5 : Value) (e : TypeId) : Reads (w.alloc (.cells #[a0, a1, a2, a3, a4, a5] e)) (.slice (some ⟨w.heap.size, 0, none⟩) 1 1) 6 1 [a0, a1, a2, a3, a4, a5] := by
  refine .inr ⟨_, 1, rfl, Nat.le_refl _, by unfold maxLen; omega, rfl, fun j u hu => ?_⟩
  rw [Addr.add_lit]
  refine cell_of_heap (heap_new w _) ?_
  rw [Nat.zero_add]
  simpa using hu
theorem six_one (o A B C N : Int) (l : Nat) (ua : Option Addr) (uc : Nat) (_ : Unit) : ∀ v ∈ [Value.int .i64 o, .int .i64 A, .int .i64 B, .int .i64 C, .int .i64 N, .slice ua l uc], v.oneCell' = true := by
  intro v hv
  simp only [List.mem_cons, List.not_mem_nil, or_false] at hv
  rcases hv with rfl | rfl | rfl | rfl | rfl | rfl <;> rfl
theorem results_sp {P : Program} {fn : Func} {tmps : Array Value} {w : World} {d1 d2 d3 : Tmp} {t3 : TypeId} {a3 : Addr} {v1 v2 v3 : Value} (hr : fn.results = #[.tmp d1, .tmp d2, .cell d3 t3])
    (h1 : tmps.getD d1 undef = v1) (h2 : tmps.getD d2 undef = v2) (h3 : tmps.getD d3 undef = .pointer (some a3)) (l3 : (loadVar t3 a3).run P w = .ok v3 w) : (results fn tmps).run P w = .ok (.tuple #[v1, v2, v3]) w := by
  have h1' : tmps[d1]?.getD undef = v1 := by rw [← h1]; simp [Array.getD_eq_getD_getElem?]
  have h2' : tmps[d2]?.getD undef = v2 := by rw [← h2]; simp [Array.getD_eq_getD_getElem?]
  have h3' : tmps[d3]?.getD undef = .pointer (some a3) := by rw [← h3]; simp [Array.getD_eq_getD_getElem?]
  simp only [results, hr]
  simp [h1', h2', h3', asAddr, l3]
/-- where Split's loop stands -/
structure SL (w wr : World) (x y : Value) (l : List (Ix × Value)) (ps : List Int) : Prop where
  fault : wr.heap[w.heap.size]? = some (.cells #[.int .i64 0, .int .i64 0] 49 (0, 0))
  fr : Fr no w wr
  out : wr.ownsRow (w.heap.size + 1) 42 6 x l.length (cellsOf l)
  args : ∀ p ∈ l, wr.ownsRow (w.heap.size + 1) 3 1 p.2 p.1.l.length (ints p.1.l)
  ax : ∀ p ∈ l, ∀ k, p.2.ownBlock = some k → x.ownBlock ≠ some k
  ay : ∀ p ∈ l, ∀ k, p.2.ownBlock = some k → y.ownBlock ≠ some k
  places : wr.ownsRow (w.heap.size + 1) 3 1 y ps.length (ints ps)
  xy : ∀ k, x.ownBlock = some k → y.ownBlock ≠ some k
section
variable {wr wr' : World} {x y x' y' : Value} {l : List (Ix × Value)} {ps : List Int}
theorem SL.to (h : SL w wr x y l ps) (q : Fr no wr wr') : SL w wr' x y l ps :=
  ⟨q.heap h.fault (by simp), h.fr.trans q, owns_fr h.out q (by simp), fun p hp => owns_fr (h.args p hp) q (by simp), h.ax, h.ay, owns_fr h.places q (by simp), h.xy⟩
/-- blocks that nothing here lies in have turned -/
theorem SL.tox (h : SL w wr x y l ps) {S : Nat → Prop} (q : Fr S wr wr') (hS : ∀ k, S k → wr.heap.size ≤ k) : SL w wr' x y l ps := by
  have h0 : w.heap.size < wr.heap.size := (Array.getElem?_eq_some_iff.1 h.fault).1
  refine ⟨q.heap h.fault (fun e => by have := hS _ e; omega), h.fr.trans' q (fun k hk _ => by have := hS _ hk; omega), owns_fr h.out q (fun k hk e => by have := hS _ e; have := (h.out.lt k hk).2; omega), fun p hp => owns_fr (h.args p hp) q (fun k hk e => by have := hS _ e; have := ((h.args p hp).lt k hk).2; omega), h.ax, h.ay, owns_fr h.places q (fun k hk e => by have := hS _ e; have := (h.places.lt k hk).2; omega), h.xy⟩
theorem SL.toF (h : SL w wr x y l ps) (q : Fr (only [w.heap.size]) wr wr') : wr'.ownsRow (w.heap.size + 1) 42 6 x l.length (cellsOf l) ∧ (∀ p ∈ l, wr'.ownsRow (w.heap.size + 1) 3 1 p.2 p.1.l.length (ints p.1.l)) ∧ wr'.ownsRow (w.heap.size + 1) 3 1 y ps.length (ints ps) ∧ Fr no w wr' :=
  ⟨owns_fr h.out q (fun k hk => by have := (h.out.lt k hk).1; simp; omega), fun p hp => owns_fr (h.args p hp) q (fun k hk => by have := ((h.args p hp).lt k hk).1; simp; omega), owns_fr h.places q (fun k hk => by have := (h.places.lt k hk).1; simp; omega), h.fr.trans' q (fun k hk _ => by simp at hk; omega)⟩
theorem SL.size (h : SL w wr x y l ps) : w.heap.size + 1 ≤ wr.heap.size := (Array.getElem?_eq_some_iff.1 h.fault).1
theorem SL.app {i : Ix} {u : Value} (h : SL w wr x y l ps) (hu : wr.ownsRow (w.heap.size + 1) 3 1 u i.l.length (ints i.l)) (hux : ∀ k, u.ownBlock = some k → x.ownBlock ≠ some k) (huy : ∀ k, u.ownBlock = some k → y.ownBlock ≠ some k)
    (ho : wr'.ownsRow (w.heap.size + 1) 42 6 x' (l.length + 1) (cellsOf l ++ i.cells u)) (hg : wr.grownBy wr' x.ownBlock)
    (hb : ∀ k, x'.ownBlock = some k → x.ownBlock = some k ∨ k = wr.heap.size) : SL w wr' x' y (l ++ [(i, u)]) ps := by
  have q : Fr (fun k => x.ownBlock = some k) wr wr' := (Fr.refl _ wr).grown hg (fun k hk => .inl hk)
  have hge := fun k (hk : x.ownBlock = some k) => (h.out.lt k hk).1
  refine ⟨q.heap h.fault (fun e => by have := hge _ e; omega), h.fr.trans' q (fun k hk _ => by have := hge _ hk; omega), by rw [cellsOf_snoc, List.length_append]; exact ho, fun p hp => ?_, fun p hp k hk e => ?_, fun p hp => ?_, owns_fr h.places q (fun k hk e => h.xy k e hk), fun k hk e => ?_⟩
  · rcases List.mem_append.1 hp with hp | hp
    · exact owns_fr (h.args p hp) q (fun k hk e => h.ax p hp k hk e)
    · rw [List.mem_singleton] at hp; subst hp
      exact owns_fr hu q (fun k hk e => hux k hk e)
  · have hlt : k < wr.heap.size := by
      rcases List.mem_append.1 hp with hp | hp
      · exact ((h.args p hp).lt k hk).2
      · rw [List.mem_singleton] at hp; subst hp; exact (hu.lt k hk).2
    rcases hb k e with h2 | rfl
    · rcases List.mem_append.1 hp with hp | hp
      · exact h.ax p hp k hk h2
      · rw [List.mem_singleton] at hp; subst hp; exact hux k hk h2
    · omega
  · rcases List.mem_append.1 hp with hp | hp
    · exact h.ay p hp
    · rw [List.mem_singleton] at hp; subst hp; exact huy
  · rcases hb k hk with h2 | rfl
    · exact h.xy k h2 e
    · have := (h.places.lt _ e).2; omega
theorem SL.appP {n : Int} (h : SL w wr x y l ps) (ho : wr'.ownsRow (w.heap.size + 1) 3 1 y' (ps.length + 1) (ints ps ++ [.int .i64 n])) (hg : wr.grownBy wr' y.ownBlock)
    (hb : ∀ k, y'.ownBlock = some k → y.ownBlock = some k ∨ k = wr.heap.size) : SL w wr' x y' l (ps ++ [n]) := by
  have q : Fr (fun k => y.ownBlock = some k) wr wr' := (Fr.refl _ wr).grown hg (fun k hk => .inl hk)
  have hge := fun k (hk : y.ownBlock = some k) => (h.places.lt k hk).1
  refine ⟨q.heap h.fault (fun e => by have := hge _ e; omega), h.fr.trans' q (fun k hk _ => by have := hge _ hk; omega), owns_fr h.out q (fun k hk e => h.xy k hk e), fun p hp => owns_fr (h.args p hp) q (fun k hk e => h.ay p hp k hk e), h.ax, fun p hp k hk e => ?_, by simpa [ints] using ho, fun k hk e => ?_⟩
  · rcases hb k e with h2 | rfl
    · exact h.ay p hp k hk h2
    · have := ((h.args p hp).lt _ hk).2; omega
  · rcases hb k e with h2 | rfl
    · exact h.xy k hk h2
    · have := (h.out.lt _ hk).2; omega
end

/-- what Split hands back -/
def SplitR (w : World) (sp : Sp) (e : Ending) (w' : World) : Prop := ∃ (u v : Value) (l : List (Ix × Value)), e = .returned (.tuple #[u, v, .agg #[.int .i64 sp.er, .int .i64 sp.fa]]) ∧ l.map Prod.fst = sp.is ∧
  w'.ownsRow (w.heap.size + 1) 42 6 u l.length (cellsOf l) ∧ (∀ p ∈ l, w'.ownsRow (w.heap.size + 1) 3 1 p.2 p.1.l.length (ints p.1.l)) ∧ (∀ p ∈ l, ∀ k, p.2.ownBlock = some k → u.ownBlock ≠ some k) ∧
  (∀ p ∈ l, ∀ k, p.2.ownBlock = some k → v.ownBlock ≠ some k) ∧ w'.ownsRow (w.heap.size + 1) 3 1 v sp.ps.length (ints sp.ps) ∧ (∀ k, u.ownBlock = some k → v.ownBlock ≠ some k) ∧ Fr no w w'

set_option maxRecDepth 100000 in
set_option maxHeartbeats 8000000 in
theorem split_ok (w : World) (bv : Value) (bs : List Nat) (hb : Bytes w bv bs) (hl : bs.length ≤ 4096) :
    Calls Try.prog 17 #[bv] w (SplitR w (splitR bs (bs.length + 1) [] [] 0)) := by
  obtain ⟨ba, bc, rfl⟩ := hb.reads.shape
  have HB := Lib.hid hb
  have r0 := (Fr.refl no w).alloc (.cells #[.int .i64 0, .int .i64 0] 49)
  have HS0 : Hid (SL w (w.alloc (.cells #[.int .i64 0, .int .i64 0] 49)) (.slice none 0 0) (.slice none 0 0) [] []) := Lib.hid
    ⟨heap_new w _, r0, World.ownsRow_nil _ _ _ _, fun p hp => (by cases hp), fun p hp => (by cases hp), fun p hp => (by cases hp), World.ownsRow_nil _ _ _ _, fun k hk => (by cases hk)⟩
  clear hb r0
  obtain ⟨RES, hRES⟩ : ∃ r, r = splitR bs (bs.length + 1) [] [] 0 := ⟨_, rfl⟩
  rw [← hRES]
  have HRES := Lib.hid hRES
  clear hRES
  go_enter Try.func17, Try.ntmps17
  go_wp2_with fail
  generalize w.alloc (.cells #[.int .i64 0, .int .i64 0] 49) = w1 at *
  go_loopw [5, 6, 7] (fun x y z wr => ∃ (l : List (Ix × Value)) (ps : List Int) (a f : Nat), z = .int .i64 a ∧ a ≤ bs.length ∧ bs.length + 1 ≤ f + a ∧ l.length ≤ a ∧ ps.length ≤ a ∧ Hid (SL w wr x y l ps) ∧ Hid (RES = splitR bs f (l.map Prod.fst) ps a)) (fun _ _ z _ => (bs.length - intOf z).toNat)
  case atStart => exact ⟨[], [], 0, bs.length + 1, rfl, by omega, by omega, by simp, by simp, HS0, HRES⟩
  case round =>
    obtain ⟨l, ps, a, f, rfl, ha, hf, hla, hpa, hsl, hres⟩ := hrel
    obtain ⟨xa, xc, rfl⟩ := owns_shape hsl.out.out
    obtain ⟨ya, yc, rfl⟩ := owns_shape hsl.out.places
    by_cases hlt : a < bs.length
    · have hlt' : (a : Int) < bs.length := by omega
      obtain ⟨f, rfl⟩ : ∃ g, f = g + 1 := ⟨f - 1, by omega⟩
      have HRU : Hid (RES = if (getR bs a).er ≠ 0 then ⟨[], [], (getR bs a).er, (getR bs a).fa⟩ else splitR bs f (l.map Prod.fst ++ [(getR bs a).ix]) (ps ++ [(a : Int)]) (getR bs a).next.toNat) := Lib.hid (by
        rw [hres.out]; show (if bs.length ≤ a then _ else _) = _; rw [if_neg (by omega)])
      have HGC := Lib.hid (getR_cases bs a)
      have HGT := Lib.hid (get_any wr _ bs a (HB.out.fr hsl.out.fr))
      generalize getR bs a = t at *
      obtain ⟨⟨io, iA, iB, iC, iN, il⟩, nx, er, fa⟩ := t
      dsimp only at HRU HGC
      have HSL := Lib.hid hsl.out
      clear hsl hres
      go_wp2_with fail
      refine HGT.out.mono ?_
      rintro e w2 ⟨u, rfl, hu, r2⟩
      obtain ⟨ua, uc, rfl⟩ := owns_shape hu
      unfold resV
      dsimp only at hu ⊢
      have HU2 := Lib.hid hu
      have HSL2 := Lib.hid (HSL.out.to r2)
      have hw2 := r2.size
      clear hu r2
      have HW0 := Lib.hid (RW.start w2 zeroIns 0 0)
      unfold zeroIns at HW0
      have HW1 := Lib.hid (HW0.out.set1 #[.int .i64 io, .int .i64 iA, .int .i64 iB, .int .i64 iC, .int .i64 iN, .slice ua il.length uc])
      have HW2 := Lib.hid (HW1.out.set2 er fa)
      go_upto_region 8 with (first
        | (refine wpList_store_row rfl 42 (.tmp 8) (.tmp 23) rfl w2.heap.size #[.int .i64 io, .int .i64 iA, .int .i64 iB, .int .i64 iC, .int .i64 iN, .slice ua il.length uc] rfl rfl _ _ HW0.out.ins (by rw [Try.infoIns]; rfl) rfl (by simp [Value.oneCell']) ?_; rw [act_put_none])
        | (refine wpList_store_row rfl 49 (.tmp 10) (.tmp 25) rfl (w2.heap.size + 1) #[.int .i64 er, .int .i64 fa] rfl rfl _ _ HW1.out.fault (by rw [Try.infoFault]; rfl) rfl (by simp [Value.oneCell']) ?_; rw [act_put_none]))
      clear HW0 HW1
      generalize World.setRow _ (w2.heap.size + 1) #[.int .i64 er, .int .i64 fa] = w3 at *
      have HSL3 := Lib.hid (HSL2.out.to HW2.out.fr)
      have HU3 := Lib.hid (owns_fr HU2.out HW2.out.fr (by simp))
      have c0 : w3.cell? ⟨w2.heap.size + 1, 0, none⟩ = some (.int .i64 er) := cell_of_heap HW2.out.fault rfl
      have hsz2 : w.heap.size < w2.heap.size := (Array.getElem?_eq_some_iff.1 HSL2.out.fault).1
      clear HSL2 HU2
      by_cases her : er = 0
      case neg =>
        have e1 : (er != 0) = true := by simpa using her
        have HQ : Hid (RES = ⟨[], [], er, fa⟩) := Lib.hid (by rw [HRU.out, if_pos her])
        clear her
        go_wp2_with fail
        have rd := (Fr.refl no w3).drew
        have HF9 := Lib.hid (rd.heap HW2.out.fault (by simp))
        have HSL9 := Lib.hid (HSL3.out.to rd)
        clear rd
        refine Lex.region [3] [4] (by kernel_rfl) (by kernel_rfl) ?_
        refine Lex.opens (fun w' => w'.heap[w2.heap.size + 1]? = some (.cells #[.int .i64 er, .int .i64 fa] 49 (0, 0))) (HF9.out) ?_
        repeat (first
          | (refine Lex.skips (by rfl) ?_; (try simp only [Act.put, List.setIfInBounds_toArray, List.set_cons_zero, List.set_cons_succ]))
          | (refine Lex.row (by rfl) (by rfl) _ _ rfl _ rfl _ _ _ _ ((fun w' h => h)) Try.underlying49 rfl (by rw [Try.infoFault]; rfl) ?_; (try simp only [Act.put, List.setIfInBounds_toArray, List.set_cons_zero, List.set_cons_succ]))
          | (refine Lex.quiet (v := ?_) (by rfl) (by rfl) ?_ ?_; rotate_left; (focus (intro w' hS'; go_simp; try rfl)); (try simp only [Act.put, List.setIfInBounds_toArray, List.set_cons_zero, List.set_cons_succ])))
        refine Lex.loud (by rfl) (by rfl) ?_
        intro K' hK'
        refine wp_store_row 49 (.tmp 4) (.tmp 29) rfl w.heap.size #[.int .i64 er, .int .i64 fa] rfl rfl _ _ HSL9.out.fault (by rw [Try.infoFault]; rfl) rfl (by simp [Value.oneCell']) ?_
        have rq := fr_setRow (g := w.heap.size) (cs := #[.int .i64 er, .int .i64 fa]) (Fr.refl (only [w.heap.size]) w3.drew) (.inl (by simp))
        have HF := Lib.hid (rq.heap HF9.out (by simp; omega))
        have HFR := Lib.hid (HSL9.out.fr.trans' rq (fun k hk _ => by simp at hk; omega))
        have HR := Lib.hid (setRow_heap w3.drew w.heap.size _ #[.int .i64 er, .int .i64 fa] _ _ HSL9.out.fault)
        clear rq
        refine hK' _ _ (HF.out) ?_
        clear hK'
        try simp only [Act.put, List.setIfInBounds_toArray, List.set_cons_zero, List.set_cons_succ]
        refine Lex.done ?_
        refine Lex.ends ?_
        clear c0
        go_wp2_with fail
        refine ⟨rfl, _, results_sp rfl rfl rfl rfl (run_loadVar_row _ _ _ _ _ (0, 0) _ HR.out Try.underlying49 rfl (by rw [Try.infoFault]; rfl)), ?_⟩
        rw [HQ.out]
        exact ⟨_, _, [], rfl, rfl, World.ownsRow_nil _ _ _ _, fun p hp => (by cases hp), fun p hp => (by cases hp), fun p hp => (by cases hp), World.ownsRow_nil _ _ _ _, fun k hk => (by cases hk), HFR.out⟩
      have e1 : (er != 0) = false := by simpa using her
      subst her
      obtain ⟨n, rfl, hn1, hn2⟩ : ∃ n : Nat, nx = n ∧ a < n ∧ n ≤ bs.length := by
        rcases HGC.out with ⟨_, h⟩ | ⟨h, _⟩
        · obtain ⟨n, h1, h2, h3⟩ := h.next
          exact ⟨n, h1, by omega, h3⟩
        · exact absurd rfl h
      have HR2 : Hid (RES = splitR bs f (l.map Prod.fst ++ [⟨io, iA, iB, iC, iN, il⟩]) (ps ++ [(a : Int)]) n) := Lib.hid (by rw [HRU.out, if_neg (fun h => h rfl)]; rfl)
      clear HRU HGC
      obtain ⟨d0, d1, d2, d3, d4, d5⟩ := cells6 HW2.out.ins
      have r4 := (Fr.refl no w3).alloc (.cells #[.int .i64 io, .int .i64 iA, .int .i64 iB, .int .i64 iC, .int .i64 iN, .slice ua il.length uc] 42)
      have HSL4 := Lib.hid (HSL3.out.to r4)
      have HU4 := Lib.hid (owns_base (owns_fr HU3.out r4 (by simp)) (base' := w.heap.size + 1) (fun k hk => by have := (HU3.out.lt k hk).1; have := (HSL.out.size); omega))
      have HNX : Hid (∀ k, (Value.slice ua il.length uc).ownBlock = some k → (Value.slice xa l.length xc).ownBlock ≠ some k ∧ (Value.slice ya ps.length yc).ownBlock ≠ some k) := Lib.hid (fun k hk => by
        have := (HU3.out.lt k hk).1
        exact ⟨fun e => by have := (HSL.out.out.lt k e).2; omega, fun e => by have := (HSL.out.places.lt k e).2; omega⟩)
      have HR6 := Lib.hid (reads_six w3 (.int .i64 io) (.int .i64 iA) (.int .i64 iB) (.int .i64 iC) (.int .i64 iN) (.slice ua il.length uc) 42)
      clear r4
      go_wp2_with (at_builtin; first
        | ((refine wpList_append_at rfl (.tmp 30) _ 22 rfl (w.heap.size + 1) 42 (.agg zeroIns) 6 64 Try.underlying22 Try.infoIns3 rfl (by decide) _ l.length _ rfl HSL4.out.out 1 _ HR6.out (six_one _ _ _ _ _ _ _ _ ()) (by unfold maxLen; omega) (by omega) HSL4.out.size ?_); intro gd ge w5 ho hg hb;
           have HSL5 := Lib.hid (HSL4.out.app (i := ⟨io, iA, iB, iC, iN, il⟩) (u := .slice ua il.length uc) HU4.out (fun k hk => (HNX.out k hk).1) (fun k hk => (HNX.out k hk).2) ho hg hb);
           have HSL6 := Lib.hid (HSL5.out.to ((Fr.refl no w5).alloc (.cells #[.int .i64 a] 3)));
           clear ho hg hb d0 d1 d2 d3 d4 d5 c0)
        | ((refine wpList_append_at rfl (.tmp 34) _ 32 rfl (w.heap.size + 1) 3 (.int .i64 0) 1 8 Try.underlying32 Try.infoInt rfl (by decide) _ ps.length _ rfl HSL6.out.places 1 [.int .i64 a] (reads_one _ _ _) int_one (by unfold maxLen; omega) (by omega) HSL6.out.size ?_); intro gf gg w7 ho hg hb))
      have HSL7 := Lib.hid (HSL6.out.appP (n := a) ho hg hb)
      clear ho hg hb
      go_roundw
      case rel => exact ⟨l ++ [(⟨io, iA, iB, iC, iN, il⟩, .slice ua il.length uc)], ps ++ [(a : Int)], n, f, rfl, hn2, by omega, by simp; omega, by simp; omega, HSL7, Lib.hid (by rw [HR2.out, List.map_append]; rfl)⟩
      case measure => first | (simp [intOf]; done) | (simp [intOf]; omega)
    · obtain rfl : a = bs.length := by omega
      have HQ : Hid (RES = ⟨l.map Prod.fst, ps, 0, 0⟩) := Lib.hid (by
        obtain ⟨f, rfl⟩ : ∃ g, f = g + 1 := ⟨f - 1, by omega⟩
        rw [hres.out]; show (if bs.length ≤ bs.length then _ else _) = _; rw [if_pos (Nat.le_refl _)])
      have HSL := Lib.hid hsl.out
      have HF := Lib.hid (setRow_heap wr w.heap.size _ #[.int .i64 0, .int .i64 0] _ _ hsl.out.fault)
      have rq := fr_setRow (g := w.heap.size) (cs := #[.int .i64 0, .int .i64 0]) (Fr.refl (only [w.heap.size]) wr) (.inl (by simp))
      have RQ := Lib.hid rq
      clear rq hsl hres
      go_wp2_with (refine wpList_store_row rfl 49 (.tmp 4) (.tmp 41) rfl w.heap.size #[.int .i64 0, .int .i64 0] rfl rfl _ _ HSL.out.fault (by rw [Try.infoFault]; rfl) rfl (by simp [Value.oneCell']) ?_; rw [act_put_none])
      refine ⟨rfl, _, results_sp rfl rfl rfl rfl (run_loadVar_row _ _ _ _ _ (0, 0) _ HF.out Try.underlying49 rfl (by rw [Try.infoFault]; rfl)), ?_⟩
      rw [HQ.out]
      have hS := HSL.out.toF RQ.out
      exact ⟨_, _, l, rfl, rfl, hS.1, hS.2.1, HSL.out.ax, HSL.out.ay, hS.2.2.1, HSL.out.xy, hS.2.2.2⟩

end Go.Proofs.Ytgofiaodncemiaa

namespace Go.Proofs.Ytgofiaodncemiaa
open Go.RowKit

attribute [local go_sem] Program.isFuncB Program.isSliceB

variable {w w' w'' w0 : World}


end Go.Proofs.Ytgofiaodncemiaa

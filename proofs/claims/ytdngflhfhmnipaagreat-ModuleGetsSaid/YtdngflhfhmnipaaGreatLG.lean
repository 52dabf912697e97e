import Derived.Test.YtdngflhfhmnipaaGreatLF
set_option linter.unusedSimpArgs false
set_option linter.unusedVariables false
set_option linter.unusedSectionVars false
set_option linter.unnecessarySimpa false
namespace Go.Proofs.YtdngflhfhmnipaaGreat
open Go.RowKit

attribute [local go_sem] Program.isFuncB Program.isSliceB

variable {w w' w'' w0 : World}

theorem Bytes.at {w : World} {sa : Option Addr} {c : Nat} {bs : List Nat} (h : Bytes w (.slice sa bs.length c) bs) (k : Nat) (hk : k < bs.length) : ∃ b o, sa = some ⟨b, o, none⟩ ∧ w.cell? ⟨b, o + k, none⟩ = some (.int .u8 (bs[k] : Nat)) := reads_u8 h.reads hk
theorem Bytes.fr {w w' : World} {bv : Value} {bs : List Nat} (h : Bytes w bv bs) (r : Fr no w w') : Bytes w' bv bs :=
  ⟨h.reads.fr r (by simp), h.small, h.len, fun k hk => Nat.lt_of_lt_of_le (h.old k hk) r.size⟩

theorem RI.re {wr : World} {x0 : Nat} {g g' : GS} {rv av : Value} {r l : List Int} (h : RI w wr x0 g rv av r l) (hN : g'.N = g.N) : RI w wr x0 g' rv av r l :=
  ⟨h.rw_, by rw [hN]; exact h.var, h.regs, h.args, h.ap⟩
theorem RI.re' {wr : World} {x0 : Nat} {g g' : GS} {rv av : Value} {r l l' : List Int} (h : RI w wr x0 g rv av r l) (hN : g'.N = g.N) (hl : l' = l) : RI w wr x0 g' rv av r l' := by subst hl; exact h.re hN
theorem RI.appRs {wr wr' : World} {x0 : Nat} {g : GS} {rv av rv' : Value} {r l : List Int} (news : List Int) (h : RI w wr x0 g rv av r l) (ho : wr'.ownsRow (w.heap.size + 3) 3 1 rv' (r.length + news.length) (ints r ++ ints news)) (hg : wr.grownBy wr' rv.ownBlock)
    (hb : ∀ k, rv'.ownBlock = some k → rv.ownBlock = some k ∨ k = wr.heap.size) : RI w wr' x0 g rv' av (r ++ news) l := by
  have q : Fr (fun k => rv.ownBlock = some k) wr wr' := (Fr.refl _ wr).grown hg (fun k hk => .inl hk)
  have hge := fun k (hk : rv.ownBlock = some k) => (h.regs.lt k hk).1
  refine ⟨⟨q.heap h.rw_.ins (fun e => by have := hge _ e; omega), q.heap h.rw_.fault (fun e => by have := hge _ e; omega), h.rw_.fr.trans' q (fun k hk _ => by have := hge _ hk; omega)⟩, q.heap h.var (fun e => by have := hge _ e; omega), by simpa [ints] using ho,
    owns_fr h.args q (fun k hk e => h.ap k e hk), fun k hk e => ?_⟩
  rcases hb k hk with h2 | rfl
  · exact h.ap k h2 e
  · have := (h.args.lt _ e).2; omega
theorem RI.appA {wr w1 : World} {x0 : Nat} {g : GS} {rv av av' : Value} {r l : List Int} {n : Int} (h : RI w wr x0 g rv av r l) (ho : w1.ownsRow (w.heap.size + 3) 3 1 av' (l.length + 1) (ints l ++ [.int .i64 n])) (hg : wr.grownBy w1 av.ownBlock)
    (hb : ∀ k, av'.ownBlock = some k → av.ownBlock = some k ∨ k = wr.heap.size) : RI w (w1.setCell ⟨w.heap.size + 2, 5, none⟩ av') x0 g rv av' r (l ++ [n]) := by
  have q : Fr (fun k => av.ownBlock = some k) wr w1 := (Fr.refl _ wr).grown hg (fun k hk => .inl hk)
  have hge := fun k (hk : av.ownBlock = some k) => (h.args.lt k hk).1
  have q2 : Fr (only [w.heap.size + 2]) w1 (w1.setCell ⟨w.heap.size + 2, 5, none⟩ av') := (Fr.refl _ _).setCell _ _ (.inl (by simp))
  have hge2 := fun k (hk : av'.ownBlock = some k) => (ho.lt k hk).1
  refine ⟨⟨q2.heap (q.heap h.rw_.ins (fun e => by have := hge _ e; omega)) (by simp), q2.heap (q.heap h.rw_.fault (fun e => by have := hge _ e; omega)) (by simp), (h.rw_.fr.trans' q (fun k hk _ => by have := hge _ hk; omega)).trans' q2 (fun k hk _ => by simp at hk; omega)⟩, ?_,
    owns_fr (owns_fr h.regs q (fun k hk e => h.ap k hk e)) q2 (fun k hk => by have := (h.regs.lt k hk).1; simp; omega), ?_, fun k hk e => ?_⟩
  · exact heap_setCell (q.heap h.var (fun e => by have := hge _ e; omega))
  · have := owns_fr ho q2 (fun k hk => by have := hge2 k hk; simp; omega)
    simpa [ints] using this
  · rcases hb k e with h2 | rfl
    · exact h.ap k hk h2
    · have := (h.regs.lt _ hk).2; omega
theorem RI.setN {wr : World} {x0 : Nat} {g g' : GS} {rv av : Value} {r l : List Int} {z : Int} (h : RI w wr x0 g rv av r l) (hN : g'.N = z) : RI w (wr.setCell ⟨w.heap.size + 2, 4, none⟩ (.int .i64 z)) x0 g' rv av r l := by
  have q2 : Fr (only [w.heap.size + 2]) wr (wr.setCell ⟨w.heap.size + 2, 4, none⟩ (.int .i64 z)) := (Fr.refl _ _).setCell _ _ (.inl (by simp))
  refine ⟨⟨q2.heap h.rw_.ins (by simp), q2.heap h.rw_.fault (by simp), h.rw_.fr.trans' q2 (fun k hk _ => by simp at hk; omega)⟩, by rw [hN]; exact heap_setCell h.var,
    owns_fr h.regs q2 (fun k hk => by have := (h.regs.lt k hk).1; simp; omega), owns_fr h.args q2 (fun k hk => by have := (h.args.lt k hk).1; simp; omega), h.ap⟩

theorem three (rl : List Int) (i : Nat) (hi : i < 3) (h : i < (rl ++ [0, 0, 0]).length) : (rl ++ [0, 0, 0])[i] = rl.getD i 0 := by
  by_cases h1 : i < rl.length
  · rw [List.getElem_append_left h1, List.getD_eq_getElem?_getD, List.getElem?_eq_getElem h1]; rfl
  · rw [List.getElem_append_right (by omega), List.getD_eq_getElem?_getD, List.getElem?_eq_none (by omega)]
    obtain h | h | h : i - rl.length = 0 ∨ i - rl.length = 1 ∨ i - rl.length = 2 := by omega
    all_goals simp [h]
/-- .. and when the registers are in place -/
structure RJ (w wr : World) (x0 : Nat) (g : GS) (av : Value) (l : List Int) : Prop where
  rw_ : RW w wr zeroIns 0 0
  var : wr.heap[w.heap.size + 2]? = some (.cells #[.int .i64 x0, .int .i64 g.A, .int .i64 g.B, .int .i64 g.C, .int .i64 g.N, av] 47 (0, 0))
  args : wr.ownsRow (w.heap.size + 3) 3 1 av l.length (ints l)
theorem RJ.to {wr wr' : World} {x0 : Nat} {g : GS} {av : Value} {l : List Int} (h : RJ w wr x0 g av l) (q : Fr no wr wr') : RJ w wr' x0 g av l :=
  ⟨h.rw_.to q, q.heap h.var (by simp), owns_fr h.args q (by simp)⟩
theorem RI.abc {wr : World} {x0 : Nat} {g : GS} {rv av : Value} {r l : List Int} (h : RI w wr x0 g rv av r l) (A B C : Int) :
    RJ w (((wr.setCell ⟨w.heap.size + 1 + 1, 1, none⟩ (.int .i64 A)).setCell ⟨w.heap.size + 1 + 1, 2, none⟩ (.int .i64 B)).setCell ⟨w.heap.size + 1 + 1, 3, none⟩ (.int .i64 C)) x0 { g with A := A, B := B, C := C } av l := by
  have q : Fr (only [w.heap.size + 2]) wr (((wr.setCell ⟨w.heap.size + 1 + 1, 1, none⟩ (.int .i64 A)).setCell ⟨w.heap.size + 1 + 1, 2, none⟩ (.int .i64 B)).setCell ⟨w.heap.size + 1 + 1, 3, none⟩ (.int .i64 C)) :=
    (((Fr.refl _ _).setCell _ _ (.inl (by simp))).setCell _ _ (.inl (by simp))).setCell _ _ (.inl (by simp))
  exact ⟨⟨q.heap h.rw_.ins (by simp), q.heap h.rw_.fault (by simp), h.rw_.fr.trans' q (fun k hk _ => by simp at hk; omega)⟩, heap_setCell (heap_setCell (heap_setCell h.var)), owns_fr h.args q (fun k hk => by have := (h.args.lt k hk).1; simp; omega)⟩
theorem RJ.set {wr : World} {x0 : Nat} {g : GS} {av : Value} {l : List Int} (h : RJ w wr x0 g av l) (cs cs' : Array Value) : ((wr.setRow w.heap.size cs).setRow (w.heap.size + 1) cs').ownsRow (w.heap.size + 3) 3 1 av l.length (ints l) := by
  have q1 := fr_setRow (g := w.heap.size) (cs := cs) (Fr.refl (only [w.heap.size, w.heap.size + 1]) wr) (.inl (by simp))
  have q2 := fr_setRow (g := w.heap.size + 1) (cs := cs') q1 (.inl (by simp))
  exact owns_fr h.args q2 (fun k hk => by have := (h.args.lt k hk).1; simp; omega)

theorem RP.reg {bs : List Nat} {g : GS} {r : List Int} {last last' : Bool} {c : UInt8} {z : Int} {p : Nat × Bool} (h : RP bs g r last) (hm : g.many = 0) (hk : g.k < 3) (hp : p.2 = false) (hc : regB c.toNat = true) : RP bs (g.put c z p) (r ++ [z]) last' := by
  obtain ⟨A, B, C, N, k, many, q⟩ := g
  obtain rfl : many = 0 := hm
  obtain ⟨-, -, -, -, h5, h6, h7, h8⟩ := h
  dsimp only at h5 h6 h7 h8 hk
  unfold GS.put
  rw [if_pos hc]
  match k, r, h5, hk with
  | 0, [], _, _ => exact ⟨hp, hp, Nat.zero_le _, fun _ => rfl, rfl, rfl, h7, h8⟩
  | 1, [a], _, _ => exact ⟨hp, hp, Nat.zero_le _, fun _ => rfl, rfl, h6, rfl, h8⟩
  | 2, [a, b], _, _ => exact ⟨hp, hp, Nat.zero_le _, fun _ => rfl, rfl, h6, h7, rfl⟩
theorem RP.non {bs : List Nat} {g : GS} {r : List Int} {last last' : Bool} {c : UInt8} {z : Int} {p : Nat × Bool} (h : RP bs g r last) (hm : g.many = 0) (hp : p.2 = false) (hc : regB c.toNat = false) : RP bs (g.put c z p) r last' := by
  obtain ⟨A, B, C, N, k, many, q⟩ := g
  obtain rfl : many = 0 := hm
  unfold GS.put
  rw [if_neg (by rw [hc]; simp)]
  exact ⟨hp, hp, Nat.zero_le _, fun _ => rfl, h.k, h.A, h.B, h.C⟩

theorem takeR_le (bs : List Nat) (n : Nat) (p : Nat × Bool) (h : p.1 ≤ bs.length) : (takeR bs n p).2.1 ≤ bs.length := by
  unfold takeR
  split
  · exact h
  · rename_i hn
    exact Nat.le_of_not_lt (fun hh => hn (.inr hh))
theorem stepG_le (bs : List Nat) (g : GS) (c : UInt8) (h : g.p.1 ≤ bs.length) : (stepG bs g c).p.1 ≤ bs.length := by
  unfold stepG
  split
  · exact takeR_le bs 1 g.p h
  · rw [(put_k _ _ _ _).2.1]; exact takeR_le bs _ g.p h
theorem fold_le (bs : List Nat) : ∀ (s : List UInt8) (g : GS), g.p.1 ≤ bs.length → (s.foldl (stepG bs) g).p.1 ≤ bs.length
  | [], g, h => h
  | c :: s, g, h => fold_le bs s _ (stepG_le bs g c h)
theorem runG_le (bs : List Nat) (p : Nat × Bool) (s : List UInt8) (h : p.1 ≤ bs.length) : (runG bs p s).p.1 ≤ bs.length := fold_le bs s _ h

/-- where the document's Get's loop stands, all of it -/
def GIn (w : World) (bs : List Nat) (x0 : Nat) (g : GS) (last : Bool) (x rv : Value) (wr : World) : Prop :=
  ∃ (rl : List Int) (av : Value), x = .int .i64 ((argsR bs g.many g.p).2.1 : Nat) ∧ RI w wr x0 g rv av rl (argsR bs g.many g.p).1 ∧ RP bs g rl last

set_option maxRecDepth 100000 in
set_option maxHeartbeats 16000000 in
theorem refget_in (w : World) (bv : Value) (bs : List Nat) (at' : Nat) (hb : Bytes w bv bs) (hat : at' ≤ bs.length) :
    Calls Tryz.prog 89 #[bv, .int .i64 at'] w (GotR w (getR bs at')) := by
  obtain ⟨ba, bc, rfl⟩ := hb.reads.shape
  have HB := Lib.hid hb
  have hln := hb.len
  have HSM := Lib.hid hb.small
  have HW := Lib.hid (RW.start w zeroIns 0 0)
  unfold zeroIns at HW
  have hGR : getR bs at' = if (takeR bs 1 (at', false)).2.2 = true then failG 4 bs.length
      else if 33 ≤ (takeR bs 1 (at', false)).1 then failG 16 at'
      else if (runG bs (takeR bs 1 (at', false)).2 (sh (takeR bs 1 (at', false)).1)).p.2 = true then failG 4 bs.length
      else if 8 < (runG bs (takeR bs 1 (at', false)).2 (sh (takeR bs 1 (at', false)).1)).many then failG 3 at'
      else if (argsR bs (runG bs (takeR bs 1 (at', false)).2 (sh (takeR bs 1 (at', false)).1)).many (runG bs (takeR bs 1 (at', false)).2 (sh (takeR bs 1 (at', false)).1)).p).2.2 = true then failG 4 bs.length
      else if checkOf (takeR bs 1 (at', false)).1 (runG bs (takeR bs 1 (at', false)).2 (sh (takeR bs 1 (at', false)).1)).A (runG bs (takeR bs 1 (at', false)).2 (sh (takeR bs 1 (at', false)).1)).B (runG bs (takeR bs 1 (at', false)).2 (sh (takeR bs 1 (at', false)).1)).C (runG bs (takeR bs 1 (at', false)).2 (sh (takeR bs 1 (at', false)).1)).N (argsR bs (runG bs (takeR bs 1 (at', false)).2 (sh (takeR bs 1 (at', false)).1)).many (runG bs (takeR bs 1 (at', false)).2 (sh (takeR bs 1 (at', false)).1)).p).1 64 4096 ≠ 0 then failG 5 at'
      else ⟨⟨(takeR bs 1 (at', false)).1, (runG bs (takeR bs 1 (at', false)).2 (sh (takeR bs 1 (at', false)).1)).A, (runG bs (takeR bs 1 (at', false)).2 (sh (takeR bs 1 (at', false)).1)).B, (runG bs (takeR bs 1 (at', false)).2 (sh (takeR bs 1 (at', false)).1)).C, (runG bs (takeR bs 1 (at', false)).2 (sh (takeR bs 1 (at', false)).1)).N, (argsR bs (runG bs (takeR bs 1 (at', false)).2 (sh (takeR bs 1 (at', false)).1)).many (runG bs (takeR bs 1 (at', false)).2 (sh (takeR bs 1 (at', false)).1)).p).1⟩, (argsR bs (runG bs (takeR bs 1 (at', false)).2 (sh (takeR bs 1 (at', false)).1)).many (runG bs (takeR bs 1 (at', false)).2 (sh (takeR bs 1 (at', false)).1)).p).2.1, 0, 0⟩ := by
    unfold getR
    rw [if_neg (by omega)]
    rw [Int.toNat_natCast]
  have hat1 : ¬ (at' : Int) < 0 := by omega
  have hat2 : ¬ (bs.length : Int) < at' := by omega
  by_cases hend : at' = bs.length
  · subst hend
    have HQ : Hid (getR bs bs.length = failG 4 bs.length) := Lib.hid (by rw [hGR, if_pos (by rw [takeR_short bs 1 bs.length (by omega)])])
    clear hGR
    go_enter Tryz.func89, Tryz.ntmps89
    go_wp2_with fail
    refine (fault_ok _ 4 bs.length).mono ?_
    rintro e wf ⟨rfl, rf⟩
    have Gf := Lib.hid (HW.out.to rf)
    have Gf1 := Lib.hid (Gf.out.set1 zeroIns)
    have Gf2 := Lib.hid (Gf1.out.set2 4 bs.length)
    clear rf
    go_wp2_with (first
      | (refine wpList_store_row rfl 47 (.tmp 4) (.tmp 37) rfl w.heap.size zeroIns rfl rfl _ _ Gf.out.ins (by rw [Tryz.infoIns]; rfl) rfl (by simp [zeroIns, Value.oneCell']) ?_; rw [act_put_none])
      | (refine wpList_store_row rfl 38 (.tmp 6) (.tmp 39) rfl (w.heap.size + 1) #[.int .i64 4, .int .i64 bs.length] rfl rfl _ _ Gf1.out.fault (by rw [Tryz.infoFault]; rfl) rfl (by simp [Value.oneCell']) ?_; rw [act_put_none]))
    exact ⟨rfl, _, results_ref rfl rfl rfl rfl (Gf2.out.load1 rfl) Gf2.out.load2, by rw [HQ.out]; exact got_fail w _ 4 bs.length Gf2.out.fr⟩
  have hlt : at' < bs.length := by omega
  have hne : ((at' : Int) == (bs.length : Int)) = false := by rw [beq_eq_false_iff_ne]; omega
  obtain ⟨b, ob, rfl, cb⟩ := hb.at at' hlt
  have CB := Lib.hid cb
  rw [takeR_one bs at' hlt] at hGR
  have hx0 := hb.small bs[at'] (List.getElem_mem _)
  generalize bs[at'] = x0 at *
  dsimp only at hGR
  obtain ⟨G, hG⟩ : ∃ G, G = runG bs (at' + 1, false) (sh x0) := ⟨_, rfl⟩
  rw [← hG] at hGR
  obtain ⟨AR, hAR⟩ : ∃ AR, AR = argsR bs G.many G.p := ⟨_, rfl⟩
  rw [← hAR] at hGR
  have HGE := Lib.hid hG
  have HAE := Lib.hid hAR
  have HGK := Lib.hid (runG_k bs (at' + 1, false) hb.small)
  clear hG hAR hend hb
  generalize getR bs at' = RES at *
  have HGR := Lib.hid hGR
  clear hGR cb
  have hat3 : (at' : Int) < bs.length := by omega
  have hblk : b < w.heap.size := World.block_lt_of_cell? w _ CB.out
  have r3 := (((Fr.refl no w).alloc (.cells #[.int .i64 0, .int .i64 0, .int .i64 0, .int .i64 0, .int .i64 0, .slice none 0 0] 47)).alloc (.cells #[.int .i64 0, .int .i64 0] 38))
  have cb2 := r3.cell CB.out (by simp)
  clear r3
  go_enter Tryz.func89, Tryz.ntmps89
  go_upto_region 6 with (fail)
  have r4 := (Fr.refl no ((w.alloc (.cells #[.int .i64 0, .int .i64 0, .int .i64 0, .int .i64 0, .int .i64 0, .slice none 0 0] 47)).alloc (.cells #[.int .i64 0, .int .i64 0] 38))).alloc (.cells #[.int .i64 x0, .int .i64 0, .int .i64 0, .int .i64 0, .int .i64 0, .slice none 0 0] 47)
  have HW4 := Lib.hid (HW.out.to r4)
  have HV4 := heap_new ((w.alloc (.cells #[.int .i64 0, .int .i64 0, .int .i64 0, .int .i64 0, .int .i64 0, .slice none 0 0] 47)).alloc (.cells #[.int .i64 0, .int .i64 0] 38)) (.cells #[.int .i64 x0, .int .i64 0, .int .i64 0, .int .i64 0, .int .i64 0, .slice none 0 0] 47)
  simp only [World.size_alloc] at HV4
  have HV := Lib.hid HV4
  clear r4 HV4 HW cb2
  generalize ((w.alloc (.cells #[.int .i64 0, .int .i64 0, .int .i64 0, .int .i64 0, .int .i64 0, .slice none 0 0] 47)).alloc (.cells #[.int .i64 0, .int .i64 0] 38)).alloc (.cells #[.int .i64 x0, .int .i64 0, .int .i64 0, .int .i64 0, .int .i64 0, .slice none 0 0] 47) = w4 at *
  have v0 : w4.cell? ⟨w.heap.size + 1 + 1, 0, none⟩ = some (.int .i64 x0) := cell_of_heap HV.out rfl
  by_cases h33 : 33 ≤ x0
  · have h33' : (33 : Int) ≤ x0 := by omega
    have HQ : Hid (RES = failG 16 at') := Lib.hid (by rw [HGR.out, if_neg (by simp), if_pos h33])
    go_wp2_with fail
    refine (fault_ok _ 16 at').mono ?_
    rintro e wf ⟨rfl, rf⟩
    have Gf := Lib.hid (HW4.out.to rf)
    have Gf1 := Lib.hid (Gf.out.set1 zeroIns)
    have Gf2 := Lib.hid (Gf1.out.set2 16 at')
    clear rf
    go_wp2_with (first
      | (refine wpList_store_row rfl 47 (.tmp 4) (.tmp 51) rfl w.heap.size zeroIns rfl rfl _ _ Gf.out.ins (by rw [Tryz.infoIns]; rfl) rfl (by simp [zeroIns, Value.oneCell']) ?_; rw [act_put_none])
      | (refine wpList_store_row rfl 38 (.tmp 6) (.tmp 53) rfl (w.heap.size + 1) #[.int .i64 16, .int .i64 at'] rfl rfl _ _ Gf1.out.fault (by rw [Tryz.infoFault]; rfl) rfl (by simp [Value.oneCell']) ?_; rw [act_put_none]))
    exact ⟨rfl, _, results_ref rfl rfl rfl rfl (Gf2.out.load1 rfl) Gf2.out.load2, by rw [HQ.out]; exact got_fail w _ 16 at' Gf2.out.fr⟩
  have h33' : ¬ (33 : Int) ≤ x0 := by omega
  have HRE : Hid (RES = if G.p.2 = true then failG 4 bs.length else if 8 < G.many then failG 3 at' else if AR.2.2 = true then failG 4 bs.length
      else if checkOf x0 G.A G.B G.C G.N AR.1 64 4096 ≠ 0 then failG 5 at' else ⟨⟨x0, G.A, G.B, G.C, G.N, AR.1⟩, AR.2.1, 0, 0⟩) := Lib.hid (by rw [HGR.out, if_neg (by simp), if_neg h33])
  clear HGR
  have HSH := Lib.hid (fun w => refshape_all w x0)
  have hok := shape_ok x0
  have hsz := hok.size
  have HLA := Lib.hid (lastI x0)
  unfold sh at HGE
  generalize shapeI x0 = s at *
  clear hok
  go_wp2_with fail
  refine (HSH.out _).mono ?_
  rintro e w' ⟨rfl, rfl⟩
  clear v0
  go_wp2_with fail
  have HP0 : Hid (GIn w bs x0 (runG bs (at' + 1, false) (s.data.toList.take 0)) (decide (0 = s.size)) (.int .i64 ((at' : Int) + 1)) (.slice none 0 0) w4) := Lib.hid ⟨[], .slice none 0 0, by go_num, ⟨HW4.out, HV.out, World.ownsRow_nil _ _ _ _, World.ownsRow_nil _ _ _ _, fun k hk => by cases hk⟩, ⟨rfl, rfl, Nat.zero_le _, fun _ => rfl, rfl, rfl, rfl, rfl⟩⟩
  have HLE := Lib.hid (fun q => runG_le bs (at' + 1, false) q (show at' + 1 ≤ bs.length by omega))
  clear HW4 HV
  go_loopw [9, 10, 11] (fun x rv y wr => ∃ k : Nat, k ≤ s.size ∧ y = .int .i64 k ∧ Hid (GIn w bs x0 (runG bs (at' + 1, false) (s.data.toList.take k)) (decide (k = s.size)) x rv wr)) (fun _ _ y _ => (s.size - intOf y).toNat)
  case atStart => exact ⟨0, by omega, rfl, HP0⟩
  case round =>
    obtain ⟨k, hk, rfl, hG⟩ := hrel
    obtain ⟨rl, av, rfl, hri, hrp⟩ := hG.out
    obtain ⟨ra, rc, rfl⟩ := owns_shape hri.regs
    obtain ⟨aa, ac, rfl⟩ := owns_shape hri.args
    clear hG
    by_cases hks : k < s.size
    · have hks' : (k : Int) < s.size := by omega
      have HSN : Hid (runG bs (at' + 1, false) (s.data.toList.take (k + 1)) = stepG bs (runG bs (at' + 1, false) (s.data.toList.take k)) (s[k]'hks)) := Lib.hid (by rw [btake_succ s k hks, runG_snoc])
      have hst := runG_sticky bs (at' + 1, false) s.data.toList (k + 1)
      rw [← HGE.out] at hst
      have HST := Lib.hid hst
      have HLA1 := Lib.hid (HLA.out k hks)
      have HLG : Hid (k + 1 = s.size → G = runG bs (at' + 1, false) (s.data.toList.take (k + 1))) := Lib.hid (fun h => by rw [h, show s.data.toList.take s.size = s.data.toList from by rw [← blen, List.take_length], HGE.out])
      have hkk := (HGK.out k (s.data.toList.take k) (blen_take s k hk)).1
      have hgl := HLE.out (s.data.toList.take k)
      clear hst
      obtain ⟨g1, hg1⟩ : ∃ g1, g1 = runG bs (at' + 1, false) (s.data.toList.take (k + 1)) := ⟨_, rfl⟩
      rw [← hg1] at HSN HST HLG
      have HG1 := Lib.hid hg1
      clear hg1
      generalize runG bs (at' + 1, false) (s.data.toList.take k) = g at *
      have hm0 := hrp.none (by simp; omega)
      obtain ⟨gA, gB, gC, gN, gk, gm, ga, gf⟩ := g
      obtain rfl : gm = 0 := hm0
      obtain rfl : gf = false := hrp.p
      have HRI : Hid (RI w wr x0 ⟨gA, gB, gC, gN, gk, 0, (ga, false)⟩ (.slice ra rl.length rc) (.slice aa 0 ac) rl []) := Lib.hid hri
      have HRP := Lib.hid hrp
      have hrk : rl.length = gk := hrp.k
      have HRK := Lib.hid hrk
      dsimp only at hkk hgl
      have hrl : rl.length ≤ 3 := by omega
      have hga : ga ≤ bs.length := hgl
      clear hri hrp hgl hrk
      dsimp only [argsR]
      have HCI : Hid (∀ d : UInt8, ((s[k]'hks).toNat : Int) = d.toNat → s[k]'hks = d) := Lib.hid (fun d e => UInt8.toNat_inj.1 (by omega))
      by_cases h108 : s[k]'hks = 108
      · have hlast := HLA1.out h108
        have HWD : Hid (∀ w1, Calls Tryz.prog 72 #[.int .u8 (s[k]'hks).toNat] w1 fun e w' => e = .returned (.int .i64 0) ∧ w1 = w') := Lib.hid (fun w1 => by rw [show (((s[k]'hks).toNat : Nat) : Int) = 108 from by rw [h108]; rfl]; exact refwidth_l w1)
        have HS2 : Hid (g1 = ⟨gA, gB, gC, gN, gk, (takeR bs 1 (ga, false)).1, (takeR bs 1 (ga, false)).2⟩) := Lib.hid (by rw [HSN.out]; unfold stepG; rw [if_pos h108])
        have HGL := Lib.hid (HLG.out hlast)
        have HLK := Lib.hid hlast
        clear h108 hlast
        go_wp2_with fail
        refine (HWD.out _).mono ?_
        rintro e w' ⟨rfl, rfl⟩
        by_cases hov : ga + 1 ≤ bs.length
        case neg =>
          have hov' : (bs.length : Int) < (ga : Int) + 1 := by omega
          have HQ : Hid (RES = failG 4 bs.length) := Lib.hid (by rw [HRE.out, if_pos (HST.out (by rw [HS2.out, takeR_short bs 1 ga (by omega)]))])
          go_wp2_with fail
          refine (fault_ok _ 4 bs.length).mono ?_
          rintro e wf ⟨rfl, rf⟩
          have Gf := Lib.hid (HRI.out.rw_.to rf)
          have Gf1 := Lib.hid (Gf.out.set1 zeroIns)
          have Gf2 := Lib.hid (Gf1.out.set2 4 bs.length)
          clear rf
          go_wp2_with (first
            | (refine wpList_store_row rfl 47 (.tmp 4) (.tmp 80) rfl w.heap.size zeroIns rfl rfl _ _ Gf.out.ins (by rw [Tryz.infoIns]; rfl) rfl (by simp [zeroIns, Value.oneCell']) ?_; rw [act_put_none])
            | (refine wpList_store_row rfl 38 (.tmp 6) (.tmp 82) rfl (w.heap.size + 1) #[.int .i64 4, .int .i64 bs.length] rfl rfl _ _ Gf1.out.fault (by rw [Tryz.infoFault]; rfl) rfl (by simp [Value.oneCell']) ?_; rw [act_put_none]))
          exact ⟨rfl, _, results_ref rfl rfl rfl rfl (Gf2.out.load1 rfl) Gf2.out.load2, by rw [HQ.out]; exact got_fail w _ 4 bs.length Gf2.out.fr⟩
        have hov' : ¬ (bs.length : Int) < (ga : Int) + 1 := by omega
        have hlt1 : (ga : Int) < bs.length := by omega
        obtain ⟨b2, o2, hbo, cb⟩ := (HB.out.fr HRI.out.rw_.fr).at ga (by omega)
        cases hbo
        rw [takeR_one bs ga (by omega)] at HS2
        have hc256 := HSM.out bs[ga] (List.getElem_mem _)
        generalize bs[ga] = cn at *
        dsimp only at HS2
        rw [HS2.out] at HGL
        by_cases h8 : 8 < cn
        · have h8' : (8 : Int) < cn := by omega
          have HQ : Hid (RES = failG 3 at') := Lib.hid (by rw [HRE.out, HGL.out]; dsimp only; rw [if_neg (by simp), if_pos h8])
          go_wp2_with fail
          refine (fault_ok _ 3 at').mono ?_
          rintro e wf ⟨rfl, rf⟩
          have Gf := Lib.hid (HRI.out.rw_.to rf)
          have Gf1 := Lib.hid (Gf.out.set1 zeroIns)
          have Gf2 := Lib.hid (Gf1.out.set2 3 at')
          clear rf
          go_wp2_with (first
            | (refine wpList_store_row rfl 47 (.tmp 4) (.tmp 94) rfl w.heap.size zeroIns rfl rfl _ _ Gf.out.ins (by rw [Tryz.infoIns]; rfl) rfl (by simp [zeroIns, Value.oneCell']) ?_; rw [act_put_none])
            | (refine wpList_store_row rfl 38 (.tmp 6) (.tmp 96) rfl (w.heap.size + 1) #[.int .i64 3, .int .i64 at'] rfl rfl _ _ Gf1.out.fault (by rw [Tryz.infoFault]; rfl) rfl (by simp [Value.oneCell']) ?_; rw [act_put_none]))
          exact ⟨rfl, _, results_ref rfl rfl rfl rfl (Gf2.out.load1 rfl) Gf2.out.load2, by rw [HQ.out]; exact got_fail w _ 3 at' Gf2.out.fr⟩
        have h8' : ¬ (8 : Int) < cn := by omega
        rw [HGL.out] at HAE
        dsimp only at HAE
        by_cases hov2 : ga + 1 + cn ≤ bs.length
        case neg =>
          have hov2' : (bs.length : Int) < (ga : Int) + 1 + cn := by omega
          have HQ : Hid (RES = failG 4 bs.length) := Lib.hid (by rw [HRE.out, HGL.out]; dsimp only; rw [if_neg (by simp), if_neg h8, if_pos (by rw [HAE.out]; exact argsR_short bs (ga + 1) cn (by omega) (by omega))])
          go_wp2_with fail
          refine (fault_ok _ 4 bs.length).mono ?_
          rintro e wf ⟨rfl, rf⟩
          have Gf := Lib.hid (HRI.out.rw_.to rf)
          have Gf1 := Lib.hid (Gf.out.set1 zeroIns)
          have Gf2 := Lib.hid (Gf1.out.set2 4 bs.length)
          clear rf
          go_wp2_with (first
            | (refine wpList_store_row rfl 47 (.tmp 4) (.tmp 107) rfl w.heap.size zeroIns rfl rfl _ _ Gf.out.ins (by rw [Tryz.infoIns]; rfl) rfl (by simp [zeroIns, Value.oneCell']) ?_; rw [act_put_none])
            | (refine wpList_store_row rfl 38 (.tmp 6) (.tmp 109) rfl (w.heap.size + 1) #[.int .i64 4, .int .i64 bs.length] rfl rfl _ _ Gf1.out.fault (by rw [Tryz.infoFault]; rfl) rfl (by simp [Value.oneCell']) ?_; rw [act_put_none]))
          exact ⟨rfl, _, results_ref rfl rfl rfl rfl (Gf2.out.load1 rfl) Gf2.out.load2, by rw [HQ.out]; exact got_fail w _ 4 bs.length Gf2.out.fr⟩
        have hov2' : ¬ (bs.length : Int) < (ga : Int) + 1 + cn := by omega
        obtain ⟨wz, hwz⟩ : ∃ x, x = wr := ⟨_, rfl⟩
        subst hwz
        go_wp2_with fail
        clear cb
        go_loopw [15] (fun x wr => ∃ j : Nat, j ≤ cn ∧ x = .int .i64 j ∧ Hid (∃ av, RI w wr x0 ⟨gA, gB, gC, gN, gk, cn, (ga + 1, false)⟩ (.slice ra rl.length rc) av rl (argsR bs j (ga + 1, false)).1)) (fun x _ => (cn - intOf x).toNat)
        case atStart => exact ⟨0, by omega, rfl, Lib.hid ⟨_, HRI.out.re rfl⟩⟩
        case round =>
          obtain ⟨j, hj, rfl, hq⟩ := hrel
          obtain ⟨av, hq⟩ := hq.out
          obtain ⟨ya, yc, rfl⟩ := owns_shape hq.args
          have HQR := Lib.hid hq
          clear hq
          by_cases hjc : j < cn
          · have hjc' : (j : Int) < cn := by omega
            have hxl : ga + 1 + j < bs.length := by omega
            have hxl' : (ga : Int) + 1 + j < bs.length := by omega
            obtain ⟨b2, o2, hbo, cb⟩ := (HB.out.fr HQR.out.rw_.fr).at (ga + 1 + j) hxl
            cases hbo
            have HSA : Hid ((argsR bs (j + 1) (ga + 1, false)).1 = (argsR bs j (ga + 1, false)).1 ++ [((bs[ga + 1 + j] : Nat) : Int)]) := Lib.hid (by
              show (argsR bs j (ga + 1, false)).1 ++ [((takeR bs 1 (argsR bs j (ga + 1, false)).2).1 : Int)] = _
              rw [show (argsR bs j (ga + 1, false)).2 = (ga + 1 + j, false) from by rw [argsR_fine bs (ga + 1) j (by omega)], takeR_one bs (ga + 1 + j) hxl])
            have hal := argsR_len bs j (ga + 1, false)
            have hx1 := HSM.out bs[ga + 1 + j] (List.getElem_mem _)
            generalize bs[ga + 1 + j] = x1 at *
            generalize (argsR bs j (ga + 1, false)).1 = al at *
            have hal2 : al.length ≤ 100 := by omega
            clear hal
            have hw1 : IntKind.i64.wrap (x1 : Int) = x1 := by rw [IntKind.wrap_i64]; omega
            have hw2 : IntKind.i64.wrap ((ga : Int) + 1) = (ga : Int) + 1 := by rw [IntKind.wrap_i64]; omega
            have hw3 : IntKind.i64.wrap ((ga : Int) + 1 + j) = (ga : Int) + 1 + j := by rw [IntKind.wrap_i64]; omega
            have c5 : wr.drew.cell? ⟨w.heap.size + 1 + 1, 5, none⟩ = some (.slice ya al.length yc) := cell_of_heap (w := wr.drew) HQR.out.var rfl
            have htn : ((ga : Int) + 1 + j).toNat = ga + 1 + j := by omega
            have cbb := ((Fr.refl no wr).drew).cell cb (by simp)
            clear cb
            go_wp2_with fail
            refine Lex.region [10, 11, 13] [13, 1] (by kernel_rfl) (by kernel_rfl) ?_
            refine Lex.opens (fun w' => w'.cell? ⟨w.heap.size + 1 + 1, 5, none⟩ = some (.slice ya al.length yc) ∧ w'.cell? ⟨b, ob + (ga + 1 + j), none⟩ = some (.int .u8 x1)) (⟨c5, cbb⟩) ?_
            repeat (first
              | (refine Lex.skips (by rfl) ?_; (try simp only [Act.put, List.setIfInBounds_toArray, List.set_cons_zero, List.set_cons_succ]))
              | (refine Lex.quiet (v := ?_) (by rfl) (by rfl) ?_ ?_; rotate_left; (focus (intro w' hS'; go_simp; try rfl)); (try simp only [Act.put, List.setIfInBounds_toArray, List.set_cons_zero, List.set_cons_succ])))
            refine Lex.loud (by rfl) (by rfl) ?_
            intro K' hK'
            go_simp
            have rb := (Fr.refl no wr.drew).alloc (.cells #[.int .i64 x1] 3)
            have cb5 := rb.cell c5 (by simp)
            have cbb2 := rb.cell cbb (by simp)
            have HQ2 := Lib.hid (HQR.out.to (((Fr.refl no wr).drew).trans rb))
            clear rb
            refine hK' _ _ (⟨cb5, cbb2⟩) ?_
            clear hK'
            try simp only [Act.put, List.setIfInBounds_toArray, List.set_cons_zero, List.set_cons_succ]
            repeat (first
              | (refine Lex.skips (by rfl) ?_; (try simp only [Act.put, List.setIfInBounds_toArray, List.set_cons_zero, List.set_cons_succ]))
              | (refine Lex.quiet (v := ?_) (by rfl) (by rfl) ?_ ?_; rotate_left; (focus (intro w' hS'; go_simp; try rfl)); (try simp only [Act.put, List.setIfInBounds_toArray, List.set_cons_zero, List.set_cons_succ])))
            refine Lex.loud (by rfl) (by rfl) ?_
            intro K' hK'
            refine wp_append_at (.tmp 116) (.tmp 125) 45 rfl (w.heap.size + 3) 3 (.int .i64 0) 1 8 Tryz.underlying45 Tryz.infoInt rfl (by decide) (.slice ya al.length yc) al.length (ints al) (by simp [Act.eval]) HQ2.out.args 1 [.int .i64 x1] (reads_one _ _ _) int_one (by unfold maxLen; omega) (by omega) HQ2.out.size ?_
            intro ga' gc' wc ho hg hb
            have HNEW := Lib.hid (HQ2.out.appA (n := x1) ho hg hb)
            have rc' : Fr (fun k => (Value.slice ya al.length yc).ownBlock = some k) (wr.drew.alloc (.cells #[.int .i64 x1] 3)) wc := (Fr.refl _ _).grown hg (fun k hk => .inl hk)
            have hge := fun k (hk : (Value.slice ya al.length yc).ownBlock = some k) => (HQ2.out.args.lt k hk).1
            have hv' := rc'.heap HQ2.out.var (fun e => by have := hge _ e; omega)
            have cc : wc.cell? ⟨w.heap.size + 1 + 1, 5, none⟩ = some (.slice ya al.length yc) := cell_of_heap hv' rfl
            have fc : wc.frozen? ⟨w.heap.size + 1 + 1, 5, none⟩ = false := frozen_of_heap hv'
            have cc2 := rc'.cell cbb2 (fun e => by have h2 := hge _ e; dsimp only at h2; omega)
            clear rc' hge hv' ho hg hb
            refine hK' _ _ (⟨cc, cc2⟩) ?_
            clear hK'
            try simp only [Act.put, List.setIfInBounds_toArray, List.set_cons_zero, List.set_cons_succ]
            repeat (first
              | (refine Lex.skips (by rfl) ?_; (try simp only [Act.put, List.setIfInBounds_toArray, List.set_cons_zero, List.set_cons_succ]))
              | (refine Lex.quiet (v := ?_) (by rfl) (by rfl) ?_ ?_; rotate_left; (focus (intro w' hS'; go_simp; try rfl)); (try simp only [Act.put, List.setIfInBounds_toArray, List.set_cons_zero, List.set_cons_succ])))
            refine Lex.done ?_
            refine Lex.opens ((fun _ => True)) (trivial) ?_
            refine Lex.loud (by rfl) (by rfl) ?_
            intro K' hK'
            go_simp
            refine hK' _ _ (trivial) ?_
            clear hK'
            try simp only [Act.put, List.setIfInBounds_toArray, List.set_cons_zero, List.set_cons_succ]
            refine Lex.done ?_
            refine Lex.ends ?_
            clear c5 cbb cb5 cbb2 cc fc cc2
            go_wp2_with fail
            go_roundw
            case rel => exact ⟨j + 1, by omega, by go_num, Lib.hid (by rw [HSA.out]; exact ⟨_, HNEW.out⟩)⟩
            case measure => first | (simp [intOf]; done) | (simp [intOf]; omega)
          · obtain rfl : j = cn := by omega
            have har := argsR_fine bs (ga + 1) j (by omega)
            have HFIN : Hid (GIn w bs x0 g1 (decide (k + 1 = s.size)) (.int .i64 ((ga : Int) + 1 + j)) (.slice ra rl.length rc) wr) := Lib.hid (by
              rw [HS2.out]
              refine ⟨rl, _, ?_, HQR.out, ⟨rfl, ?_, by dsimp only; omega, fun h => ?_, HRP.out.k, HRP.out.A, HRP.out.B, HRP.out.C⟩⟩
              · dsimp only; rw [har]; dsimp only; go_num
              · dsimp only; rw [har]
              · simp at h; exact absurd HLK.out h)
            clear har
            go_wp2_with fail
            go_roundw
            case rel => exact ⟨k + 1, by omega, by go_num, by rw [← HG1.out]; exact HFIN⟩
            case measure => first | (simp [intOf]; done) | (simp [intOf]; omega)
      · have hne8 : (((s[k]'hks).toNat : Nat) : Int) ≠ 108 := fun e => h108 (HCI.out 108 e)
        have HWD := Lib.hid (fun w1 => refwidth_ok w1 (((s[k]'hks).toNat : Nat) : Int) hne8)
        have HRG := Lib.hid (fun w1 => register_ok w1 (((s[k]'hks).toNat : Nat) : Int))
        have hwn := widthOf_is (((s[k]'hks).toNat : Nat) : Int)
        have HS2 : Hid (g1 = GS.put ⟨gA, gB, gC, gN, gk, 0, (ga, false)⟩ (s[k]'hks) (sgn (takeR bs (widthOf (((s[k]'hks).toNat : Nat) : Int)) (ga, false)).1) (takeR bs (widthOf (((s[k]'hks).toNat : Nat) : Int)) (ga, false)).2) := Lib.hid (by rw [HSN.out]; unfold stepG; rw [if_neg h108])
        have HRB : Hid (regB (((s[k]'hks).toNat : Nat) : Int) = regB (((s[k]'hks).toNat : Nat) : Int)) := Lib.hid rfl
        have HREG := Lib.hid (fun z p l => HRP.out.reg (last' := l) (c := s[k]'hks) (z := z) (p := p) rfl (by dsimp only; omega))
        have HNON := Lib.hid (fun z p l => HRP.out.non (last' := l) (c := s[k]'hks) (z := z) (p := p) rfl)
        have HPT := Lib.hid (fun z p => put_k ⟨gA, gB, gC, gN, gk, 0, (ga, false)⟩ (s[k]'hks) z p)
        have HPN : Hid (regB (((s[k]'hks).toNat : Nat) : Int) = true → ∀ z p, (GS.put ⟨gA, gB, gC, gN, gk, 0, (ga, false)⟩ (s[k]'hks) z p).N = gN) := Lib.hid (fun h z p => by
          unfold GS.put; rw [if_pos h]
          match gk with
          | 0 => rfl
          | 1 => rfl
          | n + 2 => rfl)
        have HPN2 : Hid (regB (((s[k]'hks).toNat : Nat) : Int) = false → ∀ z p, (GS.put ⟨gA, gB, gC, gN, gk, 0, (ga, false)⟩ (s[k]'hks) z p).N = z) := Lib.hid (fun h z p => by
          unfold GS.put; rw [if_neg (by rw [h]; simp)])
        clear h108 hne8
        generalize regB (((s[k]'hks).toNat : Nat) : Int) = rb at *
        generalize widthOf (((s[k]'hks).toNat : Nat) : Int) = wn at *
        have hwn1 : 1 ≤ wn := by omega
        have hwn8 : wn ≤ 8 := by omega
        have HWN := Lib.hid hwn
        clear hwn
        have hmx : max (wn : Int) 1 = wn := by omega
        go_wp2_with fail
        refine (HWD.out _).mono ?_
        rintro e w' ⟨rfl, rfl⟩
        by_cases hov : ga + wn ≤ bs.length
        case neg =>
          have hov' : (bs.length : Int) < (ga : Int) + wn := by omega
          have HQ : Hid (RES = failG 4 bs.length) := Lib.hid (by rw [HRE.out, if_pos (HST.out (by rw [HS2.out, takeR_short bs wn ga (by omega)]; rw [(HPT.out _ _).2.1]))])
          go_wp2_with fail
          refine (fault_ok _ 4 bs.length).mono ?_
          rintro e wf ⟨rfl, rf⟩
          have Gf := Lib.hid (HRI.out.rw_.to rf)
          have Gf1 := Lib.hid (Gf.out.set1 zeroIns)
          have Gf2 := Lib.hid (Gf1.out.set2 4 bs.length)
          clear rf
          go_wp2_with (first
            | (refine wpList_store_row rfl 47 (.tmp 4) (.tmp 80) rfl w.heap.size zeroIns rfl rfl _ _ Gf.out.ins (by rw [Tryz.infoIns]; rfl) rfl (by simp [zeroIns, Value.oneCell']) ?_; rw [act_put_none])
            | (refine wpList_store_row rfl 38 (.tmp 6) (.tmp 82) rfl (w.heap.size + 1) #[.int .i64 4, .int .i64 bs.length] rfl rfl _ _ Gf1.out.fault (by rw [Tryz.infoFault]; rfl) rfl (by simp [Value.oneCell']) ?_; rw [act_put_none]))
          exact ⟨rfl, _, results_ref rfl rfl rfl rfl (Gf2.out.load1 rfl) Gf2.out.load2, by rw [HQ.out]; exact got_fail w _ 4 bs.length Gf2.out.fr⟩
        have hov' : ¬ (bs.length : Int) < (ga : Int) + wn := by omega
        have hw0 : ((wn : Int) == 0) = false := by rw [beq_eq_false_iff_ne]; omega
        rw [takeR_fine bs wn ga hov] at HS2
        dsimp only at HS2
        obtain ⟨b2, o2, c2, hv2, hc2, hsub⟩ := reads_sub (HB.out.fr HRI.out.rw_.fr).reads (a := ga) (n := wn) (by omega) hov
        cases hv2
        have hlk : ((bs.drop ga).take wn).length = wn := by simp; omega
        have hxs := unle_lt ((bs.drop ga).take wn) (fun b hb => HSM.out b (List.mem_of_mem_drop (List.mem_of_mem_take hb)))
        have hx64 : unle ((bs.drop ga).take wn) < 18446744073709551616 := by
          have h2 : 256 ^ ((bs.drop ga).take wn).length ≤ 256 ^ 8 := Nat.pow_le_pow_right (by decide) (by rw [hlk]; exact hwn8)
          omega
        have HGET := Lib.hid (refget_ok wr (.slice (some ⟨b, ob + ga, none⟩) wn (bc - ga)) ((bs.drop ga).take wn) (by rw [hlk]; exact hsub) (by rw [hlk]; have := HWN.out; omega) (fun b hb => HSM.out b (List.mem_of_mem_drop (List.mem_of_mem_take hb))))
        clear hxs hlk hsub
        generalize unle ((bs.drop ga).take wn) = x at *
        have hsg := wrap_sgn x hx64
        have hvl : ga + wn ≤ bc := by omega
        have hgw : ga + wn - ga = wn := by omega
        have hgwi : (ga : Int) + wn - ga = wn := by omega
        go_wp2_with fail
        refine HGET.out.mono ?_
        rintro e w' ⟨rfl, rfl⟩
        go_wp2_with fail
        refine (HRG.out _).mono ?_
        rintro e w' ⟨rfl, rfl⟩
        cases rb with
        | true =>
          have HP6 := Lib.hid (HRI.out.to ((Fr.refl no wr).alloc (.cells #[.int .i64 (sgn x)] 3)))
          go_wp2_with (at_builtin; (refine wpList_append_at rfl (.tmp 149) _ 45 rfl (w.heap.size + 3) 3 (.int .i64 0) 1 8 Tryz.underlying45 Tryz.infoInt rfl (by decide) _ rl.length _ rfl HP6.out.regs 1 [.int .i64 (sgn x)] (reads_one _ _ _) int_one (by unfold maxLen; omega) (by omega) HP6.out.size ?_); intro gd ge w8 ho hg hb)
          have HPX := Lib.hid (HP6.out.appR (n := sgn x) ho hg hb)
          have HFIN : Hid (GIn w bs x0 g1 (decide (k + 1 = s.size)) (.int .i64 ((ga : Int) + wn)) (.slice gd (rl.length + 1) ge) w8) := Lib.hid (by
            rw [HS2.out]
            refine ⟨rl ++ [sgn x], _, ?_, HPX.out.re' (by rw [HPN.out (by trivial)]) ?_, HREG.out _ _ _ (by trivial) (by trivial)⟩
            · rw [(HPT.out _ _).2.1, (HPT.out _ _).2.2]; dsimp only [argsR]; go_num
            · rw [(HPT.out _ _).2.1, (HPT.out _ _).2.2]; rfl)
          clear ho hg hb
          go_roundw
          case rel => exact ⟨k + 1, by omega, by go_num, by rw [← HG1.out]; exact HFIN⟩
          case measure => first | (simp [intOf]; done) | (simp [intOf]; omega)
        | false =>
          have c4 : wr.cell? ⟨w.heap.size + 1 + 1, 4, none⟩ = some (.int .i64 gN) := cell_of_heap HRI.out.var rfl
          have f4 : wr.frozen? ⟨w.heap.size + 1 + 1, 4, none⟩ = false := frozen_of_heap HRI.out.var
          have HPX := Lib.hid (HRI.out.setN (z := sgn x) (HPN2.out (by trivial) (sgn x) (ga + wn, false)))
          have HFIN : Hid (GIn w bs x0 g1 (decide (k + 1 = s.size)) (.int .i64 ((ga : Int) + wn)) (.slice ra rl.length rc) (wr.setCell ⟨w.heap.size + 1 + 1, 4, none⟩ (.int .i64 (sgn x)))) := Lib.hid (by
            rw [HS2.out]
            refine ⟨rl, _, ?_, HPX.out.re' rfl ?_, HNON.out _ _ _ (by trivial) (by trivial)⟩
            · rw [(HPT.out _ _).2.1, (HPT.out _ _).2.2]; dsimp only [argsR]; go_num
            · rw [(HPT.out _ _).2.1, (HPT.out _ _).2.2]; rfl)
          go_wp2_with fail
          go_roundw
          case rel => exact ⟨k + 1, by omega, by go_num, by rw [← HG1.out]; exact HFIN⟩
          case measure => first | (simp [intOf]; done) | (simp [intOf]; omega)
    · obtain rfl : k = s.size := by omega
      rw [show s.data.toList.take s.size = s.data.toList from by rw [← blen, List.take_length], ← HGE.out] at hri hrp
      rw [show s.data.toList.take s.size = s.data.toList from by rw [← blen, List.take_length], ← HGE.out]
      rw [← HAE.out] at hri
      rw [← HAE.out]
      have hal : AR.1.length ≤ 8 := by have h1 := HAE.out; rw [h1, argsR_len]; exact hrp.few
      have HRI := Lib.hid hri
      have HRP := Lib.hid hrp
      have hgk := HGK.out s.size s.data.toList (blen s)
      rw [← HGE.out] at hgk
      have hrl : rl.length ≤ 3 := by rw [hrp.k]; omega
      have HRE2 : Hid (RES = if checkOf x0 G.A G.B G.C G.N AR.1 64 4096 ≠ 0 then failG 5 at' else ⟨⟨x0, G.A, G.B, G.C, G.N, AR.1⟩, AR.2.1, 0, 0⟩) := Lib.hid (by
        rw [HRE.out, if_neg (by rw [hrp.p]; simp), if_neg (by have := hrp.few; omega), if_neg (by rw [HAE.out, hrp.a]; simp)])
      clear HRE hri hrp hgk
      have HP6 := Lib.hid (HRI.out.to ((Fr.refl no wr).alloc (.cells #[.int .i64 0, .int .i64 0, .int .i64 0] 3)))
      have HB6 := Lib.hid (owns_reads (owns_row wr [.int .i64 0, .int .i64 0, .int .i64 0] 3 (by simp)))
      go_upto_region 35 with (at_builtin; (refine wpList_append_at rfl (.tmp 157) _ 45 rfl (w.heap.size + 3) 3 (.int .i64 0) 1 8 Tryz.underlying45 Tryz.infoInt rfl (by decide) _ rl.length _ rfl HP6.out.regs 3 [.int .i64 0, .int .i64 0, .int .i64 0] HB6.out (by intro u hu; simp at hu; subst hu; rfl) (by unfold maxLen; omega) (by omega) HP6.out.size ?_); intro gd ge w8 ho hg hb)
      have hpx := HP6.out.appRs [0, 0, 0] ho hg hb
      have hreg : Reads w8 (.slice gd (rl.length + 3) ge) 1 (rl.length + 3) (ints (rl ++ [0, 0, 0])) := by have := owns_reads hpx.regs; rw [List.length_append] at this; exact this
      obtain ⟨bg, og, hgd, r0⟩ := reads_int hreg (k := 0) (by simp)
      subst hgd
      obtain ⟨bg1, og1, hgd1, r1⟩ := reads_int hreg (k := 1) (by simp)
      cases hgd1
      obtain ⟨bg2, og2, hgd2, r2⟩ := reads_int hreg (k := 2) (by simp)
      cases hgd2
      rw [three rl 0 (by omega), ← HRP.out.A, Nat.add_zero] at r0
      rw [three rl 1 (by omega), ← HRP.out.B] at r1
      rw [three rl 2 (by omega), ← HRP.out.C] at r2
      have hbn : ¬ bg = w.heap.size + 1 + 1 := by have := (hpx.regs.lt bg rfl).1; omega
      have hbn2 : ¬ w.heap.size + 1 + 1 = bg := fun e => hbn e.symm
      have HPX := Lib.hid hpx
      clear hreg hpx ho hg hb HB6 HP6 HRI HRP
      have q1 : w8.cell? ⟨w.heap.size + 1 + 1, 1, none⟩ = some (.int .i64 0) := cell_of_heap HPX.out.var rfl
      have q2 : w8.cell? ⟨w.heap.size + 1 + 1, 2, none⟩ = some (.int .i64 0) := cell_of_heap HPX.out.var rfl
      have q3 : w8.cell? ⟨w.heap.size + 1 + 1, 3, none⟩ = some (.int .i64 0) := cell_of_heap HPX.out.var rfl
      have f1 : w8.frozen? ⟨w.heap.size + 1 + 1, 1, none⟩ = false := frozen_of_heap HPX.out.var
      have f2 : w8.frozen? ⟨w.heap.size + 1 + 1, 2, none⟩ = false := frozen_of_heap HPX.out.var
      have f3 : w8.frozen? ⟨w.heap.size + 1 + 1, 3, none⟩ = false := frozen_of_heap HPX.out.var
      go_upto_region 38 with (fail)
      clear r0 r1 r2 q1 q2 q3 f1 f2 f3 hbn hbn2
      have HJ := Lib.hid (HPX.out.abc G.A G.B G.C)
      clear HPX
      generalize ((w8.setCell ⟨w.heap.size + 1 + 1, 1, none⟩ (.int .i64 G.A)).setCell ⟨w.heap.size + 1 + 1, 2, none⟩ (.int .i64 G.B)).setCell ⟨w.heap.size + 1 + 1, 3, none⟩ (.int .i64 G.C) = w9 at *
      obtain ⟨c0, c1, c2, c3, c4, c5⟩ := cells6 HJ.out.var
      have HCK := Lib.hid (refcheck_ok w9 x0 G.A G.B G.C G.N 64 4096 _ AR.1 (owns_reads HJ.out.args) (by omega))
      unfold insV at HCK
      clear hal
      go_wp2_with fail
      refine HCK.out.mono ?_
      rintro e wf ⟨rfl, rf⟩
      have HJF := Lib.hid (HJ.out.to rf)
      clear rf c0 c1 c2 c3 c4 c5
      obtain ⟨c0, c1, c2, c3, c4, c5⟩ := cells6 HJF.out.var
      by_cases hck : checkOf x0 G.A G.B G.C G.N AR.1 64 4096 = 0
      case neg =>
        have HQ : Hid (RES = failG 5 at') := Lib.hid (by rw [HRE2.out, if_pos hck])
        have e5 : (checkOf x0 G.A G.B G.C G.N AR.1 64 4096 != 0) = true := by simpa using hck
        clear HRE2 hck
        generalize checkOf x0 G.A G.B G.C G.N AR.1 64 4096 = ck at *
        go_wp2_with fail
        refine (fault_ok _ 5 at').mono ?_
        rintro e wf ⟨rfl, rf⟩
        have Gf := Lib.hid (HJF.out.rw_.to rf)
        have Gf1 := Lib.hid (Gf.out.set1 zeroIns)
        have Gf2 := Lib.hid (Gf1.out.set2 5 at')
        clear rf
        go_wp2_with (first
          | (refine wpList_store_row rfl 47 (.tmp 4) (.tmp 177) rfl w.heap.size zeroIns rfl rfl _ _ Gf.out.ins (by rw [Tryz.infoIns]; rfl) rfl (by simp [zeroIns, Value.oneCell']) ?_; rw [act_put_none])
          | (refine wpList_store_row rfl 38 (.tmp 6) (.tmp 179) rfl (w.heap.size + 1) #[.int .i64 5, .int .i64 at'] rfl rfl _ _ Gf1.out.fault (by rw [Tryz.infoFault]; rfl) rfl (by simp [Value.oneCell']) ?_; rw [act_put_none]))
        exact ⟨rfl, _, results_ref rfl rfl rfl rfl (Gf2.out.load1 rfl) Gf2.out.load2, by rw [HQ.out]; exact got_fail w _ 5 at' Gf2.out.fr⟩
      have HQ : Hid (RES = ⟨⟨x0, G.A, G.B, G.C, G.N, AR.1⟩, AR.2.1, 0, 0⟩) := Lib.hid (by rw [HRE2.out, if_neg (fun h => h hck)])
      have e5 : (checkOf x0 G.A G.B G.C G.N AR.1 64 4096 != 0) = false := by simpa using hck
      clear HRE2 hck
      generalize checkOf x0 G.A G.B G.C G.N AR.1 64 4096 = ck at *
      have Gf1 := Lib.hid (HJF.out.rw_.set1 #[.int .i64 x0, .int .i64 G.A, .int .i64 G.B, .int .i64 G.C, .int .i64 G.N, .slice aa AR.1.length ac])
      have Gf2 := Lib.hid (Gf1.out.set2 0 0)
      go_wp2_with (first
        | (refine wpList_store_row rfl 47 (.tmp 4) (.tmp 180) rfl w.heap.size #[.int .i64 x0, .int .i64 G.A, .int .i64 G.B, .int .i64 G.C, .int .i64 G.N, .slice aa AR.1.length ac] rfl rfl _ _ HJF.out.rw_.ins (by rw [Tryz.infoIns]; rfl) rfl (by simp [zeroIns, Value.oneCell']) ?_; rw [act_put_none])
        | (refine wpList_store_row rfl 38 (.tmp 6) (.tmp 182) rfl (w.heap.size + 1) #[.int .i64 0, .int .i64 0] rfl rfl _ _ Gf1.out.fault (by rw [Tryz.infoFault]; rfl) rfl (by simp [Value.oneCell']) ?_; rw [act_put_none]))
      refine ⟨rfl, _, results_ref rfl rfl rfl rfl (Gf2.out.load1 rfl) Gf2.out.load2, ?_⟩
      rw [HQ.out]
      exact ⟨_, rfl, owns_base (HJF.out.set _ _) (fun k hk => by have := (HJF.out.args.lt k hk).1; omega), Gf2.out.fr⟩

end Go.Proofs.YtdngflhfhmnipaaGreat

namespace Go.Proofs.YtdngflhfhmnipaaGreat
open Go.RowKit

attribute [local go_sem] Program.isFuncB Program.isSliceB

variable {w w' w'' w0 : World}

/-! ### Get at any place, and what it tells -/
theorem get_any (w : World) (bv : Value) (bs : List Nat) (at' : Int) (hb : Bytes w bv bs) : Calls Tryz.prog 88 #[bv, .int .i64 at'] w (GotR w (getR bs at')) := by
  by_cases h : at' < 0 ∨ (bs.length : Int) < at'
  · have : getR bs at' = failG 2 0 := by unfold getR; rw [if_pos h]
    rw [this]
    refine (get_out w bv bs at' hb h).mono ?_
    rintro e w' ⟨rfl, r⟩
    exact got_fail w w' 2 0 r
  · obtain ⟨n, rfl⟩ : ∃ n : Nat, at' = n := ⟨at'.toNat, by omega⟩
    exact get_in w bv bs n hb (by omega)
theorem refget_any (w : World) (bv : Value) (bs : List Nat) (at' : Int) (hb : Bytes w bv bs) : Calls Tryz.prog 89 #[bv, .int .i64 at'] w (GotR w (getR bs at')) := by
  by_cases h : at' < 0 ∨ (bs.length : Int) < at'
  · have : getR bs at' = failG 2 0 := by unfold getR; rw [if_pos h]
    rw [this]
    exact refget_out w bv bs at' hb h
  · obtain ⟨n, rfl⟩ : ∃ n : Nat, at' = n := ⟨at'.toNat, by omega⟩
    exact refget_in w bv bs n hb (by omega)

theorem takeR_ge (bs : List Nat) (n : Nat) (p : Nat × Bool) : p.1 ≤ (takeR bs n p).2.1 := by
  unfold takeR
  split
  · exact Nat.le_refl _
  · exact Nat.le_add_right _ _
theorem stepG_ge (bs : List Nat) (g : GS) (c : UInt8) : g.p.1 ≤ (stepG bs g c).p.1 := by
  unfold stepG
  split
  · exact takeR_ge bs 1 g.p
  · rw [(put_k _ _ _ _).2.1]; exact takeR_ge bs _ g.p
theorem fold_ge (bs : List Nat) : ∀ (s : List UInt8) (g : GS), g.p.1 ≤ (s.foldl (stepG bs) g).p.1
  | [], g => Nat.le_refl _
  | c :: s, g => Nat.le_trans (stepG_ge bs g c) (fold_ge bs s _)
theorem runG_ge (bs : List Nat) (p : Nat × Bool) (s : List UInt8) : p.1 ≤ (runG bs p s).p.1 := fold_ge bs s (startG p)
theorem argsR_ge (bs : List Nat) : ∀ (n : Nat) (p : Nat × Bool), p.1 ≤ (argsR bs n p).2.1
  | 0, p => Nat.le_refl _
  | n + 1, p => Nat.le_trans (argsR_ge bs n p) (takeR_ge bs 1 _)
theorem argsR_le (bs : List Nat) : ∀ (n : Nat) (p : Nat × Bool), p.1 ≤ bs.length → (argsR bs n p).2.1 ≤ bs.length
  | 0, p, h => h
  | n + 1, p, h => takeR_le bs 1 _ (argsR_le bs n p h)

structure Fit (bs : List Nat) (at' : Int) (t : Gt) : Prop where
  at_ : 0 ≤ at'
  next : ∃ n : Nat, t.next = n ∧ at' < n ∧ n ≤ bs.length
  few : t.ix.l.length ≤ 8
  op : 0 ≤ t.ix.o
  ck : ckOf t.ix = 0
  fa : t.fa = 0
theorem getR_cases (bs : List Nat) (at' : Int) : ((getR bs at').er = 0 ∧ Fit bs at' (getR bs at')) ∨ ((getR bs at').er ≠ 0 ∧ (getR bs at').ix = ⟨0, 0, 0, 0, 0, []⟩ ∧ (getR bs at').next = 0 ∧ 0 ≤ (getR bs at').fa ∧ (getR bs at').fa ≤ bs.length) := by
  unfold getR
  by_cases c1 : at' < 0 ∨ (bs.length : Int) < at'
  · rw [if_pos c1]; exact .inr ⟨by show (2 : Int) ≠ 0; decide, rfl, rfl, by show (0 : Int) ≤ 0; decide, by show (0 : Int) ≤ _; omega⟩
  rw [if_neg c1]
  obtain ⟨a, rfl⟩ : ∃ n : Nat, at' = n := ⟨at'.toNat, by omega⟩
  rw [Int.toNat_natCast]
  by_cases c2 : (takeR bs 1 (a, false)).2.2 = true
  · rw [if_pos c2]; exact .inr ⟨by show (4 : Int) ≠ 0; decide, rfl, rfl, by show (0 : Int) ≤ bs.length; omega, by show (bs.length : Int) ≤ _; omega⟩
  rw [if_neg c2]
  have hlt : a + 1 ≤ bs.length := by
    rcases Nat.lt_or_ge bs.length (a + 1) with h | h
    · exact (c2 (by rw [takeR_short bs 1 a h])).elim
    · exact h
  have hfail : ∀ er : Int, er ≠ 0 → ∀ fa : Int, fa = a ∨ fa = bs.length → ((failG er fa).er ≠ 0 ∧ (failG er fa).ix = ⟨0, 0, 0, 0, 0, []⟩ ∧ (failG er fa).next = 0 ∧ 0 ≤ (failG er fa).fa ∧ (failG er fa).fa ≤ bs.length) := by
    intro er h1 fa h2
    refine ⟨h1, rfl, rfl, ?_, ?_⟩
    · show 0 ≤ fa; omega
    · show fa ≤ _; omega
  have e0 := takeR_one bs a hlt
  rw [e0]
  dsimp only
  generalize bs[a] = x0 at *
  by_cases c3 : 33 ≤ x0
  · rw [if_pos c3]; exact .inr (hfail 16 (by decide) _ (.inl rfl))
  rw [if_neg c3]
  have g1 := runG_ge bs (a + 1, false) (sh x0)
  have g2 := runG_le bs (a + 1, false) (sh x0) hlt
  generalize runG bs (a + 1, false) (sh x0) = g at *
  have g3 := argsR_ge bs g.many g.p
  have g4 := argsR_le bs g.many g.p g2
  have g5 := argsR_len bs g.many g.p
  generalize argsR bs g.many g.p = ar at *
  by_cases c4 : g.p.2 = true
  · rw [if_pos c4]; exact .inr (hfail 4 (by decide) _ (.inr rfl))
  rw [if_neg c4]
  by_cases c5 : 8 < g.many
  · rw [if_pos c5]; exact .inr (hfail 3 (by decide) _ (.inl rfl))
  rw [if_neg c5]
  by_cases c6 : ar.2.2 = true
  · rw [if_pos c6]; exact .inr (hfail 4 (by decide) _ (.inr rfl))
  rw [if_neg c6]
  by_cases c7 : checkOf x0 g.A g.B g.C g.N ar.1 64 4096 ≠ 0
  · rw [if_pos c7]; exact .inr (hfail 5 (by decide) _ (.inl rfl))
  rw [if_neg c7]
  refine .inl ⟨rfl, by omega, ⟨ar.2.1, rfl, by dsimp only at g1; omega, g4⟩, by show ar.1.length ≤ 8; omega, by show (0 : Int) ≤ x0; omega, by show checkOf x0 g.A g.B g.C g.N ar.1 64 4096 = 0; exact Classical.not_not.1 c7, rfl⟩

/-! ### what bytes are split into -/
structure Sp where
  is : List Ix
  ps : List Int
  er : Int
  fa : Int
def splitR (bs : List Nat) : Nat → List Ix → List Int → Nat → Sp
  | 0, is, ps, _ => ⟨is, ps, 0, 0⟩
  | f + 1, is, ps, a => if bs.length ≤ a then ⟨is, ps, 0, 0⟩ else if (getR bs a).er ≠ 0 then ⟨[], [], (getR bs a).er, (getR bs a).fa⟩
      else splitR bs f (is ++ [(getR bs a).ix]) (ps ++ [(a : Int)]) (getR bs a).next.toNat
def spR (bs : List Nat) : Sp := if 4096 < bs.length then ⟨[], [], 3, 4096⟩ else splitR bs (bs.length + 1) [] [] 0

end Go.Proofs.YtdngflhfhmnipaaGreat

namespace Go.Proofs.YtdngflhfhmnipaaGreat
open Go.RowKit

attribute [local go_sem] Program.isFuncB Program.isSliceB

variable {w w' w'' w0 : World}

/-! ### instructions in an array of the call's own -/
def cellsOf (l : List (Ix × Value)) : List Value := l.flatMap (fun p => p.1.cells p.2)
theorem cellsOf_snoc (l : List (Ix × Value)) (p : Ix × Value) : cellsOf (l ++ [p]) = cellsOf l ++ p.1.cells p.2 := by simp [cellsOf]
theorem Tryz.infoIns3 : (Tryz.prog.info? 47).map (fun i => (i.zero, i.size, i.bytes)) = some (some (.agg zeroIns), 6, 64) := by kernel_rfl
theorem reads_six (w : World) (a0 a1 a2 a3 a4 a5 : Value) (e : TypeId) : Reads (w.alloc (.cells #[a0, a1, a2, a3, a4, a5] e)) (.slice (some ⟨w.heap.size, 0, none⟩) 1 1) 6 1 [a0, a1, a2, a3, a4, a5] := by
  refine .inr ⟨_, 1, rfl, Nat.le_refl _, by unfold maxLen; omega, rfl, fun j u hu => ?_⟩
  rw [Addr.add_lit]
  refine cell_of_heap (heap_new w _) ?_
  rw [Nat.zero_add]
  simpa using hu
theorem six_one (o A B C N : Int) (l : Nat) (ua : Option Addr) (uc : Nat) (_ : Unit) : ∀ v ∈ [Value.int .i64 o, .int .i64 A, .int .i64 B, .int .i64 C, .int .i64 N, .slice ua l uc], v.oneCell' = true := by
  intro v hv
  simp only [List.mem_cons, List.not_mem_nil, or_false] at hv
  rcases hv with rfl | rfl | rfl | rfl | rfl | rfl <;> rfl
theorem results_sp {P : Program} {fn : Func} {tmps : Array Value} {w : World} {d1 d2 d3 : Tmp} {t3 : TypeId} {a3 : Addr} {v1 v2 v3 : Value} (hr : fn.results = #[.tmp d1, .tmp d2, .cell d3 t3])
    (h1 : tmps.getD d1 undef = v1) (h2 : tmps.getD d2 undef = v2) (h3 : tmps.getD d3 undef = .pointer (some a3)) (l3 : (loadVar t3 a3).run P w = .ok v3 w) : (results fn tmps).run P w = .ok (.tuple #[v1, v2, v3]) w := by
  have h1' : tmps[d1]?.getD undef = v1 := by rw [← h1]; simp [Array.getD_eq_getD_getElem?]
  have h2' : tmps[d2]?.getD undef = v2 := by rw [← h2]; simp [Array.getD_eq_getD_getElem?]
  have h3' : tmps[d3]?.getD undef = .pointer (some a3) := by rw [← h3]; simp [Array.getD_eq_getD_getElem?]
  simp only [results, hr]
  simp [h1', h2', h3', asAddr, l3]
/-- where Split's loop stands -/
structure SL (w wr : World) (x y : Value) (l : List (Ix × Value)) (ps : List Int) : Prop where
  fault : wr.heap[w.heap.size]? = some (.cells #[.int .i64 0, .int .i64 0] 38 (0, 0))
  fr : Fr no w wr
  out : wr.ownsRow (w.heap.size + 1) 47 6 x l.length (cellsOf l)
  args : ∀ p ∈ l, wr.ownsRow (w.heap.size + 1) 3 1 p.2 p.1.l.length (ints p.1.l)
  ax : ∀ p ∈ l, ∀ k, p.2.ownBlock = some k → x.ownBlock ≠ some k
  ay : ∀ p ∈ l, ∀ k, p.2.ownBlock = some k → y.ownBlock ≠ some k
  places : wr.ownsRow (w.heap.size + 1) 3 1 y ps.length (ints ps)
  xy : ∀ k, x.ownBlock = some k → y.ownBlock ≠ some k
section
variable {wr wr' : World} {x y x' y' : Value} {l : List (Ix × Value)} {ps : List Int}
theorem SL.to (h : SL w wr x y l ps) (q : Fr no wr wr') : SL w wr' x y l ps :=
  ⟨q.heap h.fault (by simp), h.fr.trans q, owns_fr h.out q (by simp), fun p hp => owns_fr (h.args p hp) q (by simp), h.ax, h.ay, owns_fr h.places q (by simp), h.xy⟩
/-- blocks that nothing here lies in have turned -/
theorem SL.tox (h : SL w wr x y l ps) {S : Nat → Prop} (q : Fr S wr wr') (hS : ∀ k, S k → wr.heap.size ≤ k) : SL w wr' x y l ps := by
  have h0 : w.heap.size < wr.heap.size := (Array.getElem?_eq_some_iff.1 h.fault).1
  refine ⟨q.heap h.fault (fun e => by have := hS _ e; omega), h.fr.trans' q (fun k hk _ => by have := hS _ hk; omega), owns_fr h.out q (fun k hk e => by have := hS _ e; have := (h.out.lt k hk).2; omega), fun p hp => owns_fr (h.args p hp) q (fun k hk e => by have := hS _ e; have := ((h.args p hp).lt k hk).2; omega), h.ax, h.ay, owns_fr h.places q (fun k hk e => by have := hS _ e; have := (h.places.lt k hk).2; omega), h.xy⟩
theorem SL.toF (h : SL w wr x y l ps) (q : Fr (only [w.heap.size]) wr wr') : wr'.ownsRow (w.heap.size + 1) 47 6 x l.length (cellsOf l) ∧ (∀ p ∈ l, wr'.ownsRow (w.heap.size + 1) 3 1 p.2 p.1.l.length (ints p.1.l)) ∧ wr'.ownsRow (w.heap.size + 1) 3 1 y ps.length (ints ps) ∧ Fr no w wr' :=
  ⟨owns_fr h.out q (fun k hk => by have := (h.out.lt k hk).1; simp; omega), fun p hp => owns_fr (h.args p hp) q (fun k hk => by have := ((h.args p hp).lt k hk).1; simp; omega), owns_fr h.places q (fun k hk => by have := (h.places.lt k hk).1; simp; omega), h.fr.trans' q (fun k hk _ => by simp at hk; omega)⟩
theorem SL.size (h : SL w wr x y l ps) : w.heap.size + 1 ≤ wr.heap.size := (Array.getElem?_eq_some_iff.1 h.fault).1
theorem SL.app {i : Ix} {u : Value} (h : SL w wr x y l ps) (hu : wr.ownsRow (w.heap.size + 1) 3 1 u i.l.length (ints i.l)) (hux : ∀ k, u.ownBlock = some k → x.ownBlock ≠ some k) (huy : ∀ k, u.ownBlock = some k → y.ownBlock ≠ some k)
    (ho : wr'.ownsRow (w.heap.size + 1) 47 6 x' (l.length + 1) (cellsOf l ++ i.cells u)) (hg : wr.grownBy wr' x.ownBlock)
    (hb : ∀ k, x'.ownBlock = some k → x.ownBlock = some k ∨ k = wr.heap.size) : SL w wr' x' y (l ++ [(i, u)]) ps := by
  have q : Fr (fun k => x.ownBlock = some k) wr wr' := (Fr.refl _ wr).grown hg (fun k hk => .inl hk)
  have hge := fun k (hk : x.ownBlock = some k) => (h.out.lt k hk).1
  refine ⟨q.heap h.fault (fun e => by have := hge _ e; omega), h.fr.trans' q (fun k hk _ => by have := hge _ hk; omega), by rw [cellsOf_snoc, List.length_append]; exact ho, fun p hp => ?_, fun p hp k hk e => ?_, fun p hp => ?_, owns_fr h.places q (fun k hk e => h.xy k e hk), fun k hk e => ?_⟩
  · rcases List.mem_append.1 hp with hp | hp
    · exact owns_fr (h.args p hp) q (fun k hk e => h.ax p hp k hk e)
    · rw [List.mem_singleton] at hp; subst hp
      exact owns_fr hu q (fun k hk e => hux k hk e)
  · have hlt : k < wr.heap.size := by
      rcases List.mem_append.1 hp with hp | hp
      · exact ((h.args p hp).lt k hk).2
      · rw [List.mem_singleton] at hp; subst hp; exact (hu.lt k hk).2
    rcases hb k e with h2 | rfl
    · rcases List.mem_append.1 hp with hp | hp
      · exact h.ax p hp k hk h2
      · rw [List.mem_singleton] at hp; subst hp; exact hux k hk h2
    · omega
  · rcases List.mem_append.1 hp with hp | hp
    · exact h.ay p hp
    · rw [List.mem_singleton] at hp; subst hp; exact huy
  · rcases hb k hk with h2 | rfl
    · exact h.xy k h2 e
    · have := (h.places.lt _ e).2; omega
theorem SL.appP {n : Int} (h : SL w wr x y l ps) (ho : wr'.ownsRow (w.heap.size + 1) 3 1 y' (ps.length + 1) (ints ps ++ [.int .i64 n])) (hg : wr.grownBy wr' y.ownBlock)
    (hb : ∀ k, y'.ownBlock = some k → y.ownBlock = some k ∨ k = wr.heap.size) : SL w wr' x y' l (ps ++ [n]) := by
  have q : Fr (fun k => y.ownBlock = some k) wr wr' := (Fr.refl _ wr).grown hg (fun k hk => .inl hk)
  have hge := fun k (hk : y.ownBlock = some k) => (h.places.lt k hk).1
  refine ⟨q.heap h.fault (fun e => by have := hge _ e; omega), h.fr.trans' q (fun k hk _ => by have := hge _ hk; omega), owns_fr h.out q (fun k hk e => h.xy k hk e), fun p hp => owns_fr (h.args p hp) q (fun k hk e => h.ay p hp k hk e), h.ax, fun p hp k hk e => ?_, by simpa [ints] using ho, fun k hk e => ?_⟩
  · rcases hb k e with h2 | rfl
    · exact h.ay p hp k hk h2
    · have := ((h.args p hp).lt _ hk).2; omega
  · rcases hb k e with h2 | rfl
    · exact h.xy k hk h2
    · have := (h.out.lt _ hk).2; omega
end

/-- what Split hands back -/
def SplitR (w : World) (sp : Sp) (e : Ending) (w' : World) : Prop := ∃ (u v : Value) (l : List (Ix × Value)), e = .returned (.tuple #[u, v, .agg #[.int .i64 sp.er, .int .i64 sp.fa]]) ∧ l.map Prod.fst = sp.is ∧
  w'.ownsRow (w.heap.size + 1) 47 6 u l.length (cellsOf l) ∧ (∀ p ∈ l, w'.ownsRow (w.heap.size + 1) 3 1 p.2 p.1.l.length (ints p.1.l)) ∧ (∀ p ∈ l, ∀ k, p.2.ownBlock = some k → u.ownBlock ≠ some k) ∧
  (∀ p ∈ l, ∀ k, p.2.ownBlock = some k → v.ownBlock ≠ some k) ∧ w'.ownsRow (w.heap.size + 1) 3 1 v sp.ps.length (ints sp.ps) ∧ (∀ k, u.ownBlock = some k → v.ownBlock ≠ some k) ∧ Fr no w w'

set_option maxRecDepth 100000 in
set_option maxHeartbeats 8000000 in
theorem split_ok (w : World) (bv : Value) (bs : List Nat) (hb : Bytes w bv bs) (hl : bs.length ≤ 4096) :
    Calls Tryz.prog 61 #[bv] w (SplitR w (splitR bs (bs.length + 1) [] [] 0)) := by
  obtain ⟨ba, bc, rfl⟩ := hb.reads.shape
  have HB := Lib.hid hb
  have r0 := (Fr.refl no w).alloc (.cells #[.int .i64 0, .int .i64 0] 38)
  have HS0 : Hid (SL w (w.alloc (.cells #[.int .i64 0, .int .i64 0] 38)) (.slice none 0 0) (.slice none 0 0) [] []) := Lib.hid
    ⟨heap_new w _, r0, World.ownsRow_nil _ _ _ _, fun p hp => (by cases hp), fun p hp => (by cases hp), fun p hp => (by cases hp), World.ownsRow_nil _ _ _ _, fun k hk => (by cases hk)⟩
  clear hb r0
  obtain ⟨RES, hRES⟩ : ∃ r, r = splitR bs (bs.length + 1) [] [] 0 := ⟨_, rfl⟩
  rw [← hRES]
  have HRES := Lib.hid hRES
  clear hRES
  go_enter Tryz.func61, Tryz.ntmps61
  go_wp2_with fail
  generalize w.alloc (.cells #[.int .i64 0, .int .i64 0] 38) = w1 at *
  go_loopw [5, 6, 7] (fun x y z wr => ∃ (l : List (Ix × Value)) (ps : List Int) (a f : Nat), z = .int .i64 a ∧ a ≤ bs.length ∧ bs.length + 1 ≤ f + a ∧ l.length ≤ a ∧ ps.length ≤ a ∧ Hid (SL w wr x y l ps) ∧ Hid (RES = splitR bs f (l.map Prod.fst) ps a)) (fun _ _ z _ => (bs.length - intOf z).toNat)
  case atStart => exact ⟨[], [], 0, bs.length + 1, rfl, by omega, by omega, by simp, by simp, HS0, HRES⟩
  case round =>
    obtain ⟨l, ps, a, f, rfl, ha, hf, hla, hpa, hsl, hres⟩ := hrel
    obtain ⟨xa, xc, rfl⟩ := owns_shape hsl.out.out
    obtain ⟨ya, yc, rfl⟩ := owns_shape hsl.out.places
    by_cases hlt : a < bs.length
    · have hlt' : (a : Int) < bs.length := by omega
      obtain ⟨f, rfl⟩ : ∃ g, f = g + 1 := ⟨f - 1, by omega⟩
      have HRU : Hid (RES = if (getR bs a).er ≠ 0 then ⟨[], [], (getR bs a).er, (getR bs a).fa⟩ else splitR bs f (l.map Prod.fst ++ [(getR bs a).ix]) (ps ++ [(a : Int)]) (getR bs a).next.toNat) := Lib.hid (by
        rw [hres.out]; show (if bs.length ≤ a then _ else _) = _; rw [if_neg (by omega)])
      have HGC := Lib.hid (getR_cases bs a)
      have HGT := Lib.hid (get_any wr _ bs a (HB.out.fr hsl.out.fr))
      generalize getR bs a = t at *
      obtain ⟨⟨io, iA, iB, iC, iN, il⟩, nx, er, fa⟩ := t
      dsimp only at HRU HGC
      have HSL := Lib.hid hsl.out
      clear hsl hres
      go_wp2_with fail
      refine HGT.out.mono ?_
      rintro e w2 ⟨u, rfl, hu, r2⟩
      obtain ⟨ua, uc, rfl⟩ := owns_shape hu
      unfold resV
      dsimp only at hu ⊢
      have HU2 := Lib.hid hu
      have HSL2 := Lib.hid (HSL.out.to r2)
      have hw2 := r2.size
      clear hu r2
      have HW0 := Lib.hid (RW.start w2 zeroIns 0 0)
      unfold zeroIns at HW0
      have HW1 := Lib.hid (HW0.out.set1 #[.int .i64 io, .int .i64 iA, .int .i64 iB, .int .i64 iC, .int .i64 iN, .slice ua il.length uc])
      have HW2 := Lib.hid (HW1.out.set2 er fa)
      go_upto_region 8 with (first
        | (refine wpList_store_row rfl 47 (.tmp 8) (.tmp 23) rfl w2.heap.size #[.int .i64 io, .int .i64 iA, .int .i64 iB, .int .i64 iC, .int .i64 iN, .slice ua il.length uc] rfl rfl _ _ HW0.out.ins (by rw [Tryz.infoIns]; rfl) rfl (by simp [Value.oneCell']) ?_; rw [act_put_none])
        | (refine wpList_store_row rfl 38 (.tmp 10) (.tmp 25) rfl (w2.heap.size + 1) #[.int .i64 er, .int .i64 fa] rfl rfl _ _ HW1.out.fault (by rw [Tryz.infoFault]; rfl) rfl (by simp [Value.oneCell']) ?_; rw [act_put_none]))
      clear HW0 HW1
      generalize World.setRow _ (w2.heap.size + 1) #[.int .i64 er, .int .i64 fa] = w3 at *
      have HSL3 := Lib.hid (HSL2.out.to HW2.out.fr)
      have HU3 := Lib.hid (owns_fr HU2.out HW2.out.fr (by simp))
      have c0 : w3.cell? ⟨w2.heap.size + 1, 0, none⟩ = some (.int .i64 er) := cell_of_heap HW2.out.fault rfl
      have hsz2 : w.heap.size < w2.heap.size := (Array.getElem?_eq_some_iff.1 HSL2.out.fault).1
      clear HSL2 HU2
      by_cases her : er = 0
      case neg =>
        have e1 : (er != 0) = true := by simpa using her
        have HQ : Hid (RES = ⟨[], [], er, fa⟩) := Lib.hid (by rw [HRU.out, if_pos her])
        clear her
        go_wp2_with fail
        have rd := (Fr.refl no w3).drew
        have HF9 := Lib.hid (rd.heap HW2.out.fault (by simp))
        have HSL9 := Lib.hid (HSL3.out.to rd)
        clear rd
        refine Lex.region [3] [4] (by kernel_rfl) (by kernel_rfl) ?_
        refine Lex.opens (fun w' => w'.heap[w2.heap.size + 1]? = some (.cells #[.int .i64 er, .int .i64 fa] 38 (0, 0))) (HF9.out) ?_
        repeat (first
          | (refine Lex.skips (by rfl) ?_; (try simp only [Act.put, List.setIfInBounds_toArray, List.set_cons_zero, List.set_cons_succ]))
          | (refine Lex.row (by rfl) (by rfl) _ _ rfl _ rfl _ _ _ _ ((fun w' h => h)) Tryz.underlying38 rfl (by rw [Tryz.infoFault]; rfl) ?_; (try simp only [Act.put, List.setIfInBounds_toArray, List.set_cons_zero, List.set_cons_succ]))
          | (refine Lex.quiet (v := ?_) (by rfl) (by rfl) ?_ ?_; rotate_left; (focus (intro w' hS'; go_simp; try rfl)); (try simp only [Act.put, List.setIfInBounds_toArray, List.set_cons_zero, List.set_cons_succ])))
        refine Lex.loud (by rfl) (by rfl) ?_
        intro K' hK'
        refine wp_store_row 38 (.tmp 4) (.tmp 29) rfl w.heap.size #[.int .i64 er, .int .i64 fa] rfl rfl _ _ HSL9.out.fault (by rw [Tryz.infoFault]; rfl) rfl (by simp [Value.oneCell']) ?_
        have rq := fr_setRow (g := w.heap.size) (cs := #[.int .i64 er, .int .i64 fa]) (Fr.refl (only [w.heap.size]) w3.drew) (.inl (by simp))
        have HF := Lib.hid (rq.heap HF9.out (by simp; omega))
        have HFR := Lib.hid (HSL9.out.fr.trans' rq (fun k hk _ => by simp at hk; omega))
        have HR := Lib.hid (setRow_heap w3.drew w.heap.size _ #[.int .i64 er, .int .i64 fa] _ _ HSL9.out.fault)
        clear rq
        refine hK' _ _ (HF.out) ?_
        clear hK'
        try simp only [Act.put, List.setIfInBounds_toArray, List.set_cons_zero, List.set_cons_succ]
        refine Lex.done ?_
        refine Lex.ends ?_
        clear c0
        go_wp2_with fail
        refine ⟨rfl, _, results_sp rfl rfl rfl rfl (run_loadVar_row _ _ _ _ _ (0, 0) _ HR.out Tryz.underlying38 rfl (by rw [Tryz.infoFault]; rfl)), ?_⟩
        rw [HQ.out]
        exact ⟨_, _, [], rfl, rfl, World.ownsRow_nil _ _ _ _, fun p hp => (by cases hp), fun p hp => (by cases hp), fun p hp => (by cases hp), World.ownsRow_nil _ _ _ _, fun k hk => (by cases hk), HFR.out⟩
      have e1 : (er != 0) = false := by simpa using her
      subst her
      obtain ⟨n, rfl, hn1, hn2⟩ : ∃ n : Nat, nx = n ∧ a < n ∧ n ≤ bs.length := by
        rcases HGC.out with ⟨_, h⟩ | ⟨h, _⟩
        · obtain ⟨n, h1, h2, h3⟩ := h.next
          exact ⟨n, h1, by omega, h3⟩
        · exact absurd rfl h
      have HR2 : Hid (RES = splitR bs f (l.map Prod.fst ++ [⟨io, iA, iB, iC, iN, il⟩]) (ps ++ [(a : Int)]) n) := Lib.hid (by rw [HRU.out, if_neg (fun h => h rfl)]; rfl)
      clear HRU HGC
      obtain ⟨d0, d1, d2, d3, d4, d5⟩ := cells6 HW2.out.ins
      have r4 := (Fr.refl no w3).alloc (.cells #[.int .i64 io, .int .i64 iA, .int .i64 iB, .int .i64 iC, .int .i64 iN, .slice ua il.length uc] 47)
      have HSL4 := Lib.hid (HSL3.out.to r4)
      have HU4 := Lib.hid (owns_base (owns_fr HU3.out r4 (by simp)) (base' := w.heap.size + 1) (fun k hk => by have := (HU3.out.lt k hk).1; have := (HSL.out.size); omega))
      have HNX : Hid (∀ k, (Value.slice ua il.length uc).ownBlock = some k → (Value.slice xa l.length xc).ownBlock ≠ some k ∧ (Value.slice ya ps.length yc).ownBlock ≠ some k) := Lib.hid (fun k hk => by
        have := (HU3.out.lt k hk).1
        exact ⟨fun e => by have := (HSL.out.out.lt k e).2; omega, fun e => by have := (HSL.out.places.lt k e).2; omega⟩)
      have HR6 := Lib.hid (reads_six w3 (.int .i64 io) (.int .i64 iA) (.int .i64 iB) (.int .i64 iC) (.int .i64 iN) (.slice ua il.length uc) 47)
      clear r4
      go_wp2_with (at_builtin; first
        | ((refine wpList_append_at rfl (.tmp 30) _ 42 rfl (w.heap.size + 1) 47 (.agg zeroIns) 6 64 Tryz.underlying42 Tryz.infoIns3 rfl (by decide) _ l.length _ rfl HSL4.out.out 1 _ HR6.out (six_one _ _ _ _ _ _ _ _ ()) (by unfold maxLen; omega) (by omega) HSL4.out.size ?_); intro gd ge w5 ho hg hb;
           have HSL5 := Lib.hid (HSL4.out.app (i := ⟨io, iA, iB, iC, iN, il⟩) (u := .slice ua il.length uc) HU4.out (fun k hk => (HNX.out k hk).1) (fun k hk => (HNX.out k hk).2) ho hg hb);
           have HSL6 := Lib.hid (HSL5.out.to ((Fr.refl no w5).alloc (.cells #[.int .i64 a] 3)));
           clear ho hg hb d0 d1 d2 d3 d4 d5 c0)
        | ((refine wpList_append_at rfl (.tmp 34) _ 45 rfl (w.heap.size + 1) 3 (.int .i64 0) 1 8 Tryz.underlying45 Tryz.infoInt rfl (by decide) _ ps.length _ rfl HSL6.out.places 1 [.int .i64 a] (reads_one _ _ _) int_one (by unfold maxLen; omega) (by omega) HSL6.out.size ?_); intro gf gg w7 ho hg hb))
      have HSL7 := Lib.hid (HSL6.out.appP (n := a) ho hg hb)
      clear ho hg hb
      go_roundw
      case rel => exact ⟨l ++ [(⟨io, iA, iB, iC, iN, il⟩, .slice ua il.length uc)], ps ++ [(a : Int)], n, f, rfl, hn2, by omega, by simp; omega, by simp; omega, HSL7, Lib.hid (by rw [HR2.out, List.map_append]; rfl)⟩
      case measure => first | (simp [intOf]; done) | (simp [intOf]; omega)
    · obtain rfl : a = bs.length := by omega
      have HQ : Hid (RES = ⟨l.map Prod.fst, ps, 0, 0⟩) := Lib.hid (by
        obtain ⟨f, rfl⟩ : ∃ g, f = g + 1 := ⟨f - 1, by omega⟩
        rw [hres.out]; show (if bs.length ≤ bs.length then _ else _) = _; rw [if_pos (Nat.le_refl _)])
      have HSL := Lib.hid hsl.out
      have HF := Lib.hid (setRow_heap wr w.heap.size _ #[.int .i64 0, .int .i64 0] _ _ hsl.out.fault)
      have rq := fr_setRow (g := w.heap.size) (cs := #[.int .i64 0, .int .i64 0]) (Fr.refl (only [w.heap.size]) wr) (.inl (by simp))
      have RQ := Lib.hid rq
      clear rq hsl hres
      go_wp2_with (refine wpList_store_row rfl 38 (.tmp 4) (.tmp 41) rfl w.heap.size #[.int .i64 0, .int .i64 0] rfl rfl _ _ HSL.out.fault (by rw [Tryz.infoFault]; rfl) rfl (by simp [Value.oneCell']) ?_; rw [act_put_none])
      refine ⟨rfl, _, results_sp rfl rfl rfl rfl (run_loadVar_row _ _ _ _ _ (0, 0) _ HF.out Tryz.underlying38 rfl (by rw [Tryz.infoFault]; rfl)), ?_⟩
      rw [HQ.out]
      have hS := HSL.out.toF RQ.out
      exact ⟨_, _, l, rfl, rfl, hS.1, hS.2.1, HSL.out.ax, HSL.out.ay, hS.2.2.1, HSL.out.xy, hS.2.2.2⟩

end Go.Proofs.YtdngflhfhmnipaaGreat

namespace Go.Proofs.YtdngflhfhmnipaaGreat
open Go.RowKit

attribute [local go_sem] Program.isFuncB Program.isSliceB

variable {w w' w'' w0 : World}


set_option maxRecDepth 100000 in
set_option maxHeartbeats 8000000 in
theorem refsplit_ok (w : World) (bv : Value) (bs : List Nat) (hb : Bytes w bv bs) (hl : bs.length ≤ 4096) :
    Calls Tryz.prog 63 #[bv] w (SplitR w (splitR bs (bs.length + 1) [] [] 0)) := by
  obtain ⟨ba, bc, rfl⟩ := hb.reads.shape
  have HB := Lib.hid hb
  have r0 := (Fr.refl no w).alloc (.cells #[.int .i64 0, .int .i64 0] 38)
  have HS0 : Hid (SL w (w.alloc (.cells #[.int .i64 0, .int .i64 0] 38)) (.slice none 0 0) (.slice none 0 0) [] []) := Lib.hid
    ⟨heap_new w _, r0, World.ownsRow_nil _ _ _ _, fun p hp => (by cases hp), fun p hp => (by cases hp), fun p hp => (by cases hp), World.ownsRow_nil _ _ _ _, fun k hk => (by cases hk)⟩
  clear hb r0
  obtain ⟨RES, hRES⟩ : ∃ r, r = splitR bs (bs.length + 1) [] [] 0 := ⟨_, rfl⟩
  rw [← hRES]
  have HRES := Lib.hid hRES
  clear hRES
  go_enter Tryz.func63, Tryz.ntmps63
  go_wp2_with fail
  generalize w.alloc (.cells #[.int .i64 0, .int .i64 0] 38) = w1 at *
  go_loopw [5, 6, 7] (fun x y z wr => ∃ (l : List (Ix × Value)) (ps : List Int) (a f : Nat), z = .int .i64 a ∧ a ≤ bs.length ∧ bs.length + 1 ≤ f + a ∧ l.length ≤ a ∧ ps.length ≤ a ∧ Hid (SL w wr x y l ps) ∧ Hid (RES = splitR bs f (l.map Prod.fst) ps a)) (fun _ _ z _ => (bs.length - intOf z).toNat)
  case atStart => exact ⟨[], [], 0, bs.length + 1, rfl, by omega, by omega, by simp, by simp, HS0, HRES⟩
  case round =>
    obtain ⟨l, ps, a, f, rfl, ha, hf, hla, hpa, hsl, hres⟩ := hrel
    obtain ⟨xa, xc, rfl⟩ := owns_shape hsl.out.out
    obtain ⟨ya, yc, rfl⟩ := owns_shape hsl.out.places
    by_cases hlt : a < bs.length
    · have hlt' : (a : Int) < bs.length := by omega
      obtain ⟨f, rfl⟩ : ∃ g, f = g + 1 := ⟨f - 1, by omega⟩
      have HRU : Hid (RES = if (getR bs a).er ≠ 0 then ⟨[], [], (getR bs a).er, (getR bs a).fa⟩ else splitR bs f (l.map Prod.fst ++ [(getR bs a).ix]) (ps ++ [(a : Int)]) (getR bs a).next.toNat) := Lib.hid (by
        rw [hres.out]; show (if bs.length ≤ a then _ else _) = _; rw [if_neg (by omega)])
      have HGC := Lib.hid (getR_cases bs a)
      have HGT := Lib.hid (refget_any wr _ bs a (HB.out.fr hsl.out.fr))
      generalize getR bs a = t at *
      obtain ⟨⟨io, iA, iB, iC, iN, il⟩, nx, er, fa⟩ := t
      dsimp only at HRU HGC
      have HSL := Lib.hid hsl.out
      clear hsl hres
      go_wp2_with fail
      refine HGT.out.mono ?_
      rintro e w2 ⟨u, rfl, hu, r2⟩
      obtain ⟨ua, uc, rfl⟩ := owns_shape hu
      unfold resV
      dsimp only at hu ⊢
      have HU2 := Lib.hid hu
      have HSL2 := Lib.hid (HSL.out.to r2)
      have hw2 := r2.size
      clear hu r2
      have HW0 := Lib.hid (RW.start w2 zeroIns 0 0)
      unfold zeroIns at HW0
      have HW1 := Lib.hid (HW0.out.set1 #[.int .i64 io, .int .i64 iA, .int .i64 iB, .int .i64 iC, .int .i64 iN, .slice ua il.length uc])
      have HW2 := Lib.hid (HW1.out.set2 er fa)
      go_upto_region 8 with (first
        | (refine wpList_store_row rfl 47 (.tmp 8) (.tmp 23) rfl w2.heap.size #[.int .i64 io, .int .i64 iA, .int .i64 iB, .int .i64 iC, .int .i64 iN, .slice ua il.length uc] rfl rfl _ _ HW0.out.ins (by rw [Tryz.infoIns]; rfl) rfl (by simp [Value.oneCell']) ?_; rw [act_put_none])
        | (refine wpList_store_row rfl 38 (.tmp 10) (.tmp 25) rfl (w2.heap.size + 1) #[.int .i64 er, .int .i64 fa] rfl rfl _ _ HW1.out.fault (by rw [Tryz.infoFault]; rfl) rfl (by simp [Value.oneCell']) ?_; rw [act_put_none]))
      clear HW0 HW1
      generalize World.setRow _ (w2.heap.size + 1) #[.int .i64 er, .int .i64 fa] = w3 at *
      have HSL3 := Lib.hid (HSL2.out.to HW2.out.fr)
      have HU3 := Lib.hid (owns_fr HU2.out HW2.out.fr (by simp))
      have c0 : w3.cell? ⟨w2.heap.size + 1, 0, none⟩ = some (.int .i64 er) := cell_of_heap HW2.out.fault rfl
      have hsz2 : w.heap.size < w2.heap.size := (Array.getElem?_eq_some_iff.1 HSL2.out.fault).1
      clear HSL2 HU2
      by_cases her : er = 0
      case neg =>
        have e1 : (er != 0) = true := by simpa using her
        have HQ : Hid (RES = ⟨[], [], er, fa⟩) := Lib.hid (by rw [HRU.out, if_pos her])
        clear her
        go_wp2_with fail
        have rd := (Fr.refl no w3).drew
        have HF9 := Lib.hid (rd.heap HW2.out.fault (by simp))
        have HSL9 := Lib.hid (HSL3.out.to rd)
        clear rd
        refine Lex.region [3] [4] (by kernel_rfl) (by kernel_rfl) ?_
        refine Lex.opens (fun w' => w'.heap[w2.heap.size + 1]? = some (.cells #[.int .i64 er, .int .i64 fa] 38 (0, 0))) (HF9.out) ?_
        repeat (first
          | (refine Lex.skips (by rfl) ?_; (try simp only [Act.put, List.setIfInBounds_toArray, List.set_cons_zero, List.set_cons_succ]))
          | (refine Lex.row (by rfl) (by rfl) _ _ rfl _ rfl _ _ _ _ ((fun w' h => h)) Tryz.underlying38 rfl (by rw [Tryz.infoFault]; rfl) ?_; (try simp only [Act.put, List.setIfInBounds_toArray, List.set_cons_zero, List.set_cons_succ]))
          | (refine Lex.quiet (v := ?_) (by rfl) (by rfl) ?_ ?_; rotate_left; (focus (intro w' hS'; go_simp; try rfl)); (try simp only [Act.put, List.setIfInBounds_toArray, List.set_cons_zero, List.set_cons_succ])))
        refine Lex.loud (by rfl) (by rfl) ?_
        intro K' hK'
        refine wp_store_row 38 (.tmp 4) (.tmp 29) rfl w.heap.size #[.int .i64 er, .int .i64 fa] rfl rfl _ _ HSL9.out.fault (by rw [Tryz.infoFault]; rfl) rfl (by simp [Value.oneCell']) ?_
        have rq := fr_setRow (g := w.heap.size) (cs := #[.int .i64 er, .int .i64 fa]) (Fr.refl (only [w.heap.size]) w3.drew) (.inl (by simp))
        have HF := Lib.hid (rq.heap HF9.out (by simp; omega))
        have HFR := Lib.hid (HSL9.out.fr.trans' rq (fun k hk _ => by simp at hk; omega))
        have HR := Lib.hid (setRow_heap w3.drew w.heap.size _ #[.int .i64 er, .int .i64 fa] _ _ HSL9.out.fault)
        clear rq
        refine hK' _ _ (HF.out) ?_
        clear hK'
        try simp only [Act.put, List.setIfInBounds_toArray, List.set_cons_zero, List.set_cons_succ]
        refine Lex.done ?_
        refine Lex.ends ?_
        clear c0
        go_wp2_with fail
        refine ⟨rfl, _, results_sp rfl rfl rfl rfl (run_loadVar_row _ _ _ _ _ (0, 0) _ HR.out Tryz.underlying38 rfl (by rw [Tryz.infoFault]; rfl)), ?_⟩
        rw [HQ.out]
        exact ⟨_, _, [], rfl, rfl, World.ownsRow_nil _ _ _ _, fun p hp => (by cases hp), fun p hp => (by cases hp), fun p hp => (by cases hp), World.ownsRow_nil _ _ _ _, fun k hk => (by cases hk), HFR.out⟩
      have e1 : (er != 0) = false := by simpa using her
      subst her
      obtain ⟨n, rfl, hn1, hn2⟩ : ∃ n : Nat, nx = n ∧ a < n ∧ n ≤ bs.length := by
        rcases HGC.out with ⟨_, h⟩ | ⟨h, _⟩
        · obtain ⟨n, h1, h2, h3⟩ := h.next
          exact ⟨n, h1, by omega, h3⟩
        · exact absurd rfl h
      have HR2 : Hid (RES = splitR bs f (l.map Prod.fst ++ [⟨io, iA, iB, iC, iN, il⟩]) (ps ++ [(a : Int)]) n) := Lib.hid (by rw [HRU.out, if_neg (fun h => h rfl)]; rfl)
      clear HRU HGC
      obtain ⟨d0, d1, d2, d3, d4, d5⟩ := cells6 HW2.out.ins
      have r4 := (Fr.refl no w3).alloc (.cells #[.int .i64 io, .int .i64 iA, .int .i64 iB, .int .i64 iC, .int .i64 iN, .slice ua il.length uc] 47)
      have HSL4 := Lib.hid (HSL3.out.to r4)
      have HU4 := Lib.hid (owns_base (owns_fr HU3.out r4 (by simp)) (base' := w.heap.size + 1) (fun k hk => by have := (HU3.out.lt k hk).1; have := (HSL.out.size); omega))
      have HNX : Hid (∀ k, (Value.slice ua il.length uc).ownBlock = some k → (Value.slice xa l.length xc).ownBlock ≠ some k ∧ (Value.slice ya ps.length yc).ownBlock ≠ some k) := Lib.hid (fun k hk => by
        have := (HU3.out.lt k hk).1
        exact ⟨fun e => by have := (HSL.out.out.lt k e).2; omega, fun e => by have := (HSL.out.places.lt k e).2; omega⟩)
      have HR6 := Lib.hid (reads_six w3 (.int .i64 io) (.int .i64 iA) (.int .i64 iB) (.int .i64 iC) (.int .i64 iN) (.slice ua il.length uc) 47)
      clear r4
      go_wp2_with (at_builtin; first
        | ((refine wpList_append_at rfl (.tmp 30) _ 42 rfl (w.heap.size + 1) 47 (.agg zeroIns) 6 64 Tryz.underlying42 Tryz.infoIns3 rfl (by decide) _ l.length _ rfl HSL4.out.out 1 _ HR6.out (six_one _ _ _ _ _ _ _ _ ()) (by unfold maxLen; omega) (by omega) HSL4.out.size ?_); intro gd ge w5 ho hg hb;
           have HSL5 := Lib.hid (HSL4.out.app (i := ⟨io, iA, iB, iC, iN, il⟩) (u := .slice ua il.length uc) HU4.out (fun k hk => (HNX.out k hk).1) (fun k hk => (HNX.out k hk).2) ho hg hb);
           have HSL6 := Lib.hid (HSL5.out.to ((Fr.refl no w5).alloc (.cells #[.int .i64 a] 3)));
           clear ho hg hb d0 d1 d2 d3 d4 d5 c0)
        | ((refine wpList_append_at rfl (.tmp 34) _ 45 rfl (w.heap.size + 1) 3 (.int .i64 0) 1 8 Tryz.underlying45 Tryz.infoInt rfl (by decide) _ ps.length _ rfl HSL6.out.places 1 [.int .i64 a] (reads_one _ _ _) int_one (by unfold maxLen; omega) (by omega) HSL6.out.size ?_); intro gf gg w7 ho hg hb))
      have HSL7 := Lib.hid (HSL6.out.appP (n := a) ho hg hb)
      clear ho hg hb
      go_roundw
      case rel => exact ⟨l ++ [(⟨io, iA, iB, iC, iN, il⟩, .slice ua il.length uc)], ps ++ [(a : Int)], n, f, rfl, hn2, by omega, by simp; omega, by simp; omega, HSL7, Lib.hid (by rw [HR2.out, List.map_append]; rfl)⟩
      case measure => first | (simp [intOf]; done) | (simp [intOf]; omega)
    · obtain rfl : a = bs.length := by omega
      have HQ : Hid (RES = ⟨l.map Prod.fst, ps, 0, 0⟩) := Lib.hid (by
        obtain ⟨f, rfl⟩ : ∃ g, f = g + 1 := ⟨f - 1, by omega⟩
        rw [hres.out]; show (if bs.length ≤ bs.length then _ else _) = _; rw [if_pos (Nat.le_refl _)])
      have HSL := Lib.hid hsl.out
      have HF := Lib.hid (setRow_heap wr w.heap.size _ #[.int .i64 0, .int .i64 0] _ _ hsl.out.fault)
      have rq := fr_setRow (g := w.heap.size) (cs := #[.int .i64 0, .int .i64 0]) (Fr.refl (only [w.heap.size]) wr) (.inl (by simp))
      have RQ := Lib.hid rq
      clear rq hsl hres
      go_wp2_with (refine wpList_store_row rfl 38 (.tmp 4) (.tmp 41) rfl w.heap.size #[.int .i64 0, .int .i64 0] rfl rfl _ _ HSL.out.fault (by rw [Tryz.infoFault]; rfl) rfl (by simp [Value.oneCell']) ?_; rw [act_put_none])
      refine ⟨rfl, _, results_sp rfl rfl rfl rfl (run_loadVar_row _ _ _ _ _ (0, 0) _ HF.out Tryz.underlying38 rfl (by rw [Tryz.infoFault]; rfl)), ?_⟩
      rw [HQ.out]
      have hS := HSL.out.toF RQ.out
      exact ⟨_, _, l, rfl, rfl, hS.1, hS.2.1, HSL.out.ax, HSL.out.ay, hS.2.2.1, HSL.out.xy, hS.2.2.2⟩

end Go.Proofs.YtdngflhfhmnipaaGreat

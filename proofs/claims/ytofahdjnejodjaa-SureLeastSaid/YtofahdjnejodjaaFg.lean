/- flow.Reached. -/
import Derived.Test.YtofahdjnejodjaaFf
set_option linter.unusedSimpArgs false
set_option linter.unusedVariables false
set_option linter.unusedSectionVars false
set_option linter.unnecessarySimpa false
namespace Go.Proofs.Ytofahdjnejodjaa
open Go.RowKit Go.Flow

attribute [local go_sem] Program.isFuncB Program.isSliceB

variable {w w' w'' w0 : World}

/-- a stack: a cell that holds a row of the call's own, in another block -/
structure StackAt (w : World) (B sb : Nat) (st : List Nat) : Prop where
  at' : ∃ x : Value, w.heap[sb]? = some (.cells #[x] 22 (0, 0)) ∧ w.ownsRow B 3 1 x st.length (ints (nats st)) ∧ x.ownBlock ≠ some sb
theorem StackAt.frx {S : Nat → Prop} {B sb : Nat} {st : List Nat} (h : StackAt w B sb st) (r : Fr S w w') (h1 : ¬ S sb) (h2 : ∀ k, B ≤ k → k ≠ sb → ¬ S k) : StackAt w' B sb st := by
  obtain ⟨x, h3, h4, h5⟩ := h.at'
  exact ⟨x, r.heap h3 h1, owns_fr h4 r (fun k hk => h2 k (h4.lt k hk).1 (fun e => h5 (e ▸ hk))), h5⟩

theorem pop_none (w : World) (B sb : Nat) (h : StackAt w B sb []) : Calls Try.prog 29 #[.pointer (some ⟨sb, 0, none⟩)] w fun e w' => e = .returned (.tuple #[.int .i64 0, .bool false]) ∧ w = w' := by
  obtain ⟨x, h3, h4, h5⟩ := h.at'
  obtain ⟨xa, xc, rfl⟩ := owns_shape h4
  have c0 : w.cell? ⟨sb, 0, none⟩ = some (.slice xa 0 xc) := cell_of_heap h3 rfl
  clear h h3 h4 h5
  go_enter Try.func29, Try.ntmps29
  go_wp2_with fail
  go_ret2
  exact ⟨rfl, rfl⟩
theorem pop_some (w : World) (B sb : Nat) (st : List Nat) (i : Nat) (h : StackAt w B sb (st ++ [i])) (hl : st.length ≤ 100000) :
    Calls Try.prog 29 #[.pointer (some ⟨sb, 0, none⟩)] w fun e w' => e = .returned (.tuple #[.int .i64 i, .bool true]) ∧ StackAt w' B sb st ∧ Fr (only [sb]) w w' := by
  obtain ⟨x, h3, h4, h5⟩ := h.at'
  have h6 := h4
  rcases h4.2 with ⟨_, h0⟩ | ⟨g, cap, cur, rfl, hb, hg, h1, h2, hz, ht⟩
  · simp at h0
  · rw [List.length_append, List.length_singleton] at h1 h3
    have c0 : w.cell? ⟨sb, 0, none⟩ = some (.slice (some ⟨g, 0, none⟩) (st.length + 1) cap) := cell_of_heap h3 rfl
    have f0 : w.frozen? ⟨sb, 0, none⟩ = false := frozen_of_heap h3
    have cg : w.cell? ⟨g, st.length, none⟩ = some (.int .i64 i) := by
      have := h6.cells rfl st.length (.int .i64 i) (by simp [ints, nats])
      rw [Addr.add_lit, Nat.zero_add] at this
      exact this
    have r1 : Fr (only [sb]) w (w.setCell ⟨sb, 0, none⟩ (.slice (some ⟨g, 0, none⟩) st.length cap)) := (Fr.refl _ w).setCell _ _ (.inl (by simp))
    have HQ : Hid (StackAt (w.setCell ⟨sb, 0, none⟩ (.slice (some ⟨g, 0, none⟩) st.length cap)) B sb st) := Lib.hid ⟨_, by rw [heap_setCell h3]; rfl, own_shorter (n := st.length + 1) (a := nats st) (b := [(i : Int)]) (by
      have := owns_fr h6 r1 (fun k hk => by have : k ≠ sb := fun e => h5 (e ▸ hk); simpa using this)
      simpa [nats, List.length_append] using this) (nats_len st), h5⟩
    have R1 := Lib.hid r1
    have hcap : st.length + 1 ≤ cap := h1
    have hcm : cap ≤ 9223372036854775807 := by unfold maxLen at h2; omega
    have e0 : (((st.length : Int) + 1) == 0) = false := by simp; omega
    have e1 : (st.length : Int) + 1 - 1 = st.length := by omega
    clear h h3 h4 h6 hg hz ht h1 h2 r1
    go_enter Try.func29, Try.ntmps29
    go_wp2_with fail
    go_ret2
    exact ⟨rfl, HQ.out, R1.out⟩


/-- what is pending: one at hand, and the stack -/
def pend (b : Bool) (i : Nat) (st : List Nat) : List Nat := if b then i :: st else st
theorem pop_any (w : World) (B sb : Nat) (st : List Nat) (h : StackAt w B sb st) (hl : st.length ≤ 100000) :
    Calls Try.prog 29 #[.pointer (some ⟨sb, 0, none⟩)] w fun e w' => ∃ (i : Nat) (b : Bool) (st' : List Nat), e = .returned (.tuple #[.int .i64 i, .bool b]) ∧ StackAt w' B sb st' ∧ (∀ x, x ∈ st ↔ x ∈ pend b i st') ∧ (b = false → st' = []) ∧ st'.length + (if b then 1 else 0) = st.length ∧ Fr (only [sb]) w w' := by
  rcases List.eq_nil_or_concat st with rfl | ⟨st', i, rfl⟩
  · refine (pop_none w B sb h).mono ?_
    rintro e w' ⟨rfl, rfl⟩
    exact ⟨0, false, [], rfl, h, fun x => by simp [pend], fun _ => rfl, rfl, Fr.refl _ _⟩
  · rw [List.concat_eq_append] at *
    refine (pop_some w B sb st' i h (by simp at hl; omega)).mono ?_
    rintro e w' ⟨rfl, h1, h2⟩
    exact ⟨i, true, st', rfl, h1, fun x => by simp [pend, or_comm], fun h => (by cases h), by simp, h2⟩

/-! ### the search, plainly -/
structure RInv (g : Nat → List Nat) (ob : List Bool) (pend : List Nat) : Prop where
  pr : ∀ k ∈ pend, Flow.Reach g k
  cl : ∀ k, ob[k]? = some true → Flow.Reach g k ∧ ∀ x ∈ g k, ob[x]? = some true ∨ x ∈ pend
  z : 0 ∈ pend ∨ ob[0]? = some true
theorem RInv.same {g : Nat → List Nat} {ob : List Bool} {p q : List Nat} (h : RInv g ob p) (hm : ∀ x, x ∈ p ↔ x ∈ q) : RInv g ob q :=
  ⟨fun k hk => h.pr k ((hm k).2 hk), fun k hk => ⟨(h.cl k hk).1, fun x hx => ((h.cl k hk).2 x hx).imp id (hm x).1⟩, h.z.imp (hm 0).1 id⟩
theorem RInv.start (g : Nat → List Nat) (n : Nat) : RInv g (List.replicate n false) [0] :=
  ⟨fun k hk => by simp at hk; subst hk; exact Flow.Reach.zero, fun k hk => by rw [List.getElem?_replicate] at hk; split at hk <;> simp at hk, .inl (by simp)⟩
theorem RInv.fresh {g : Nat → List Nat} {ob : List Bool} {st : List Nat} {i : Nat} (h : RInv g ob (i :: st)) (hi : i < ob.length) : RInv g (ob.set i true) (st ++ g i) := by
  have hri := h.pr i (by simp)
  have hkeep : ∀ x, ob[x]? = some true → (ob.set i true)[x]? = some true := fun x hx => by
    rw [List.getElem?_set]
    split
    · rename_i h1; subst h1; simp [hi]
    · exact hx
  refine ⟨fun k hk => ?_, fun k hk => ?_, ?_⟩
  · rcases List.mem_append.1 hk with hk | hk
    · exact h.pr k (by simp [hk])
    · exact Flow.Reach.step hri hk
  · rw [List.getElem?_set] at hk
    split at hk
    · rename_i h1; subst h1
      exact ⟨hri, fun x hx => .inr (List.mem_append.2 (.inr hx))⟩
    · obtain ⟨h1, h2⟩ := h.cl k hk
      refine ⟨h1, fun x hx => ?_⟩
      rcases h2 x hx with h3 | h3
      · exact .inl (hkeep x h3)
      · rcases List.mem_cons.1 h3 with h4 | h4
        · subst h4
          exact .inl (by rw [List.getElem?_set]; simp [hi])
        · exact .inr (List.mem_append.2 (.inl h4))
  · rcases h.z with h1 | h1
    · rcases List.mem_cons.1 h1 with h2 | h2
      · subst h2
        exact .inr (by rw [List.getElem?_set]; simp [hi])
      · exact .inl (List.mem_append.2 (.inl h2))
    · exact .inr (hkeep 0 h1)
theorem RInv.old {g : Nat → List Nat} {ob : List Bool} {st : List Nat} {i : Nat} (h : RInv g ob (i :: st)) (hi : ob[i]? = some true) : RInv g ob st := by
  refine ⟨fun k hk => h.pr k (by simp [hk]), fun k hk => ⟨(h.cl k hk).1, fun x hx => ?_⟩, ?_⟩
  · rcases (h.cl k hk).2 x hx with h3 | h3
    · exact .inl h3
    · rcases List.mem_cons.1 h3 with h4 | h4
      · subst h4; exact .inl hi
      · exact .inr h4
  · rcases h.z with h1 | h1
    · rcases List.mem_cons.1 h1 with h2 | h2
      · subst h2; exact .inr hi
      · exact .inl h2
    · exact .inr h1
theorem RInv.done {g : Nat → List Nat} {ob : List Bool} (h : RInv g ob []) (k : Nat) : ob[k]? = some true ↔ Flow.Reach g k := by
  refine ⟨fun hk => (h.cl k hk).1, fun hk => reach_least (S := fun k => ob[k]? = some true) ?_ ?_ hk⟩
  · exact h.z.resolve_left (by simp)
  · intro k x hk hx
    exact ((h.cl k hk).2 x hx).resolve_right (by simp)

/-- how many are not yet reached; how many lie on the stack; is there one at hand -/
def cntF (w : World) (og : Nat) : Nat := match w.heap[og]? with | some (.cells cs _ _) => cs.toList.countP (fun v => match v with | .bool b => !b | _ => false) | _ => 0
def lenS (w : World) (sb : Nat) : Nat := match w.heap[sb]? with | some (.cells cs _ _) => (match (cs[0]? : Option Value) with | some (.slice _ n _) => n | _ => 0) | _ => 0
def isT : Value → Nat | .bool true => 1 | _ => 0
def bools (l : List Bool) : List Value := l.map Value.bool
theorem cntF_at {og : Nat} {ob : List Bool} {t : TypeId} {z : Nat × Nat} (h : w.heap[og]? = some (.cells (bools ob).toArray t z)) : cntF w og = ob.countP (fun b => !b) := by
  unfold cntF
  rw [h]
  simp only [bools, List.countP_map]
  rfl
theorem lenS_at {sb n c : Nat} {a : Option Addr} {t : TypeId} {z : Nat × Nat} (h : w.heap[sb]? = some (.cells #[.slice a n c] t z)) : lenS w sb = n := by
  unfold lenS; rw [h]; rfl
theorem StackAt.len {B sb : Nat} {st : List Nat} (h : StackAt w B sb st) : lenS w sb = st.length := by
  obtain ⟨x, h3, h4, -⟩ := h.at'
  obtain ⟨xa, xc, rfl⟩ := owns_shape h4
  exact lenS_at h3
theorem countP_set {ob : List Bool} {i : Nat} (hi : ob[i]? = some false) : (ob.set i true).countP (fun b => !b) + 1 = ob.countP (fun b => !b) := by
  induction ob generalizing i with
  | nil => simp at hi
  | cons b l ih =>
    cases i with
    | zero => simp at hi; subst hi; simp
    | succ i =>
      have := ih (i := i) (by simpa using hi)
      simp only [List.set_cons_succ, List.countP_cons]
      omega

/-- what Reached answers -/
def ReachPost (w : World) (ck : Int) (l : List Fi) (e : Ending) (w' : World) : Prop :=
  ∃ u, e = .returned (.tuple #[u, .int .i64 ck]) ∧ (ck ≠ 0 → u = .slice none 0 0) ∧ (ck = 0 → ∃ ob : List Bool, ob.length = l.length ∧ Reads w' u 1 l.length (bools ob) ∧ ∀ k, ob[k]? = some true ↔ Flow.Reach (nx l) k) ∧ Fr no w w'
theorem ReachPost.bad {ck : Int} {l : List Fi} (h : ck ≠ 0) (r : Fr no w w') : ReachPost w ck l (.returned (.tuple #[.slice none 0 0, .int .i64 ck])) w' := ⟨_, rfl, fun _ => rfl, fun h0 => absurd h0 h, r⟩
theorem ReachPost.good {l : List Fi} {u : Value} {ob : List Bool} (h1 : ob.length = l.length) (h2 : Reads w' u 1 l.length (bools ob)) (h3 : ∀ k, ob[k]? = some true ↔ Flow.Reach (nx l) k) (r : Fr no w w') : ReachPost w 0 l (.returned (.tuple #[u, .int .i64 0])) w' :=
  ⟨_, rfl, fun h0 => absurd rfl h0, fun _ => ⟨ob, h1, h2, h3⟩, r⟩
theorem Try.infoBool : (Try.prog.info? 4).map (fun i => (i.zero, i.size, i.bytes)) = some (some (.bool false), 1, 1) := by kernel_rfl
theorem bools_rep (n : Nat) : bools (List.replicate n false) = List.replicate n (.bool false) := by simp [bools]

set_option maxRecDepth 100000 in
set_option maxHeartbeats 8000000 in
theorem freached_ok (w : World) (sa : Option Addr) (c : Nat) (is : List Ix) (hin : CodeIn w sa is) (hlen : is.length ≤ 1000) (hargs : ∀ i ∈ is, i.l.length ≤ 1000) (hN : ∀ i ∈ is, rng i.N) :
    Calls Try.prog 14 #[.slice sa is.length c] w (ReachPost w (flowCk is) (fis is)) := by
  have HNX := Lib.hid (fnext_ok w sa c is hin hlen hargs hN)
  have HFL : Hid (flowCk is = 0 → Flows (fis is)) := Lib.hid flowCk_flows
  generalize flowCk is = ck at *
  clear hin hargs hN
  go_enter Try.func14, Try.ntmps14
  go_wp2_with fail
  refine HNX.out.mono ?_
  rintro e w1 ⟨u, rfl, hbad, hgood, r1⟩
  have R1 := Lib.hid r1
  have HBAD := Lib.hid hbad
  have HGOOD := Lib.hid hgood
  clear r1 hbad hgood HNX
  by_cases hj : ck = 0
  case neg =>
    obtain rfl := HBAD.out hj
    have e1 : (ck != 0) = true := by simpa using hj
    have HJ := Lib.hid hj
    clear hj
    go_wp2_with fail
    go_ret2
    exact ReachPost.bad HJ.out R1.out
  have HN0 := (HGOOD.out hj).nx
  have HF := Lib.hid (HFL.out hj)
  subst hj
  clear HBAD HGOOD HFL
  have hsh : ∃ a c', u = .slice a is.length c' := by
    obtain ⟨vs, h1, h2⟩ := HN0
    obtain ⟨a, c', rfl⟩ := h1.shape
    exact ⟨a, c', by rw [nxs_len]⟩
  obtain ⟨na, nc, rfl⟩ := hsh
  have HN1 := Lib.hid HN0
  have hpos : 0 < is.length := by have := HF.out.pos; rw [fis_len] at this; exact this
  clear HN0
  go_upto_region 5 with ((refine wpList_make_any rfl (.tmp 20) (.tmp 20) 41 rfl w1.heap.size 4 (.bool false) 1 Try.underlying41 Try.infoBool rfl .i64 .i64 is.length is.length is.length rfl rfl rfl rfl (by omega) (by unfold maxLen; omega) (Nat.le_refl _) ?_); intro w3 ho3 hg3)
  have HG3 := Lib.hid (owns_full ho3)
  have q3 := (Fr.refl no w1).grown hg3 (by intro k hk; cases hk)
  have R3 := Lib.hid q3
  have hgl : w1.heap.size < w3.heap.size := (ho3.lt _ rfl).2
  have hgw : w.heap.size ≤ w1.heap.size := R1.out.size
  obtain ⟨og, hog⟩ : ∃ g, g = w1.heap.size := ⟨_, rfl⟩
  have HOG := Lib.hid hog
  rw [← hog] at HG3 hgl hgw ⊢
  clear ho3 hg3 q3 hog
  go_upto_region 6 with fail
  have q5 := ((Fr.refl no w3).alloc (.cells #[.int .i64 0] 3)).alloc (.cells #[.slice (some ⟨w3.heap.size, 0, none⟩) 1 1] 22)
  have HST : Hid (StackAt ((w3.alloc (.cells #[.int .i64 0] 3)).alloc (.cells #[.slice (some ⟨w3.heap.size, 0, none⟩) 1 1] 22)) w3.heap.size (w3.heap.size + 1) [0]) := Lib.hid ⟨_, heap_new2' w3 _ _, (owns_row w3 [.int .i64 0] 3 (by simp)).alloc _, by simp [Value.ownBlock]⟩
  have HG5 := Lib.hid (q5.heap HG3.out (by simp))
  have R5 := Lib.hid (R3.out.trans q5)
  obtain ⟨B, hB⟩ : ∃ B, B = w3.heap.size := ⟨_, rfl⟩
  generalize (w3.alloc (.cells #[.int .i64 0] 3)).alloc (.cells #[.slice (some ⟨w3.heap.size, 0, none⟩) 1 1] 22) = w5 at *
  rw [← hB] at hgl HST ⊢
  clear q5 HG3 R3 hB
  go_wp2_with fail
  refine (pop_any w5 B (B + 1) [0] HST.out (by simp)).mono ?_
  rintro e w6 ⟨i, bb, st, rfl, hst, hmem, hno, hcnt, r6⟩
  have HRI : Hid (RInv (nx (fis is)) (List.replicate is.length false) (pend bb i st)) := Lib.hid ((RInv.start _ _).same hmem)
  have HG6 : Hid (w6.heap[og]? = some (.cells (bools (List.replicate is.length false)).toArray 4 (0, 0))) := Lib.hid (by rw [bools_rep]; exact r6.heap HG5.out (by simp; omega))
  have HST6 := Lib.hid hst
  have R6 := Lib.hid (R5.out.trans' r6 (fun i hi _ => by have := HOG.out; simp at hi; omega))
  have HNO := Lib.hid hno
  have HCN : Hid (st.length + (if bb then 1 else 0) + 2 * (List.replicate is.length false).countP (fun b => !b) ≤ 2 * is.length + 1) := Lib.hid (by simp [List.countP_replicate] at hcnt ⊢; omega)
  clear hst hmem hno hcnt r6 HST HG5 R5
  go_wp2_with fail
  go_loopw [9, 10] (fun x y wr => ∃ (i : Nat) (bb : Bool) (ob : List Bool) (st : List Nat), x = .int .i64 i ∧ y = .bool bb ∧ Hid (ob.length = is.length) ∧ Hid (wr.heap[og]? = some (.cells (bools ob).toArray 4 (0, 0))) ∧ Hid (StackAt wr B (B + 1) st) ∧
    Hid (RInv (nx (fis is)) ob (pend bb i st)) ∧ Hid (bb = false → st = []) ∧ Hid (st.length + (if bb then 1 else 0) + 2 * ob.countP (fun b => !b) ≤ 2 * is.length + 1) ∧ Hid (Fr no w1 wr)) (fun _ y wr => 3 * cntF wr og + lenS wr (B + 1) + isT y)
  case atStart => exact ⟨i, bb, _, st, rfl, rfl, Lib.hid (by simp), HG6, HST6, HRI, HNO, HCN, R6⟩
  case round =>
    clear HG6 HST6 HRI HNO HCN R6
    obtain ⟨i, bb, ob, st, rfl, rfl, hol, hG, hst, hri, hno, hcn, hfr⟩ := hrel
    cases bb
    · have HQ := Lib.hid (fun k => RInv.done (by have := hri.out; rw [hno.out rfl] at this; exact this) k)
      have HR : Hid (Reads wr (.slice (some ⟨og, 0, none⟩) is.length is.length) 1 (fis is).length (bools ob)) := Lib.hid (by
        rw [fis_len]
        exact owns_reads (full_owns (B := og) hG.out (by simp [bools, hol.out]) (Nat.le_refl _) (by unfold maxLen; omega)))
      have HL : Hid (ob.length = (fis is).length) := Lib.hid (by rw [fis_len]; exact hol.out)
      have F := Lib.hid (R1.out.trans hfr.out)
      clear hri hst hG hol hno hcn hfr
      go_wp2_with fail
      go_ret2
      exact ReachPost.good HL.out HR.out HQ.out F.out
    · have hi : i < is.length := by
        have := reach_lt HF.out (hri.out.pr i (by simp [pend]))
        rwa [fis_len] at this
      have hio : i < ob.length := by rw [hol.out]; exact hi
      have hi' : (i : Int) < is.length := by omega
      have cg : wr.cell? ⟨og, i, none⟩ = some (.bool ob[i]) := cell_of_heap hG.out (by simp [bools, hio])
      have HST0 := Lib.hid hst.out.len
      have HCF := Lib.hid (cntF_at hG.out)
      have hstl : st.length ≤ 4000 := by have := hcn.out; simp at this; omega
      cases hoi : ob[i]
      · -- one that was not reached
        rw [hoi] at cg
        have fg : wr.frozen? ⟨og, i, none⟩ = false := frozen_of_heap hG.out
        obtain ⟨x, hx1, hx2, hx3⟩ := hst.out.at'
        obtain ⟨xa, xc, rfl⟩ := owns_shape hx2
        have HX1 := Lib.hid hx1
        have HX2 := Lib.hid hx2
        have HX3 := Lib.hid hx3
        have HRN := Lib.hid (RInv.fresh (i := i) (by have := hri.out; simpa [pend] using this) hio)
        have HCS : Hid ((ob.set i true).countP (fun b => !b) + 1 = ob.countP (fun b => !b)) := Lib.hid (countP_set (by rw [List.getElem?_eq_getElem hio, hoi]))
        have HOL : Hid ((ob.set i true).length = is.length) := Lib.hid (by rw [List.length_set]; exact hol.out)
        have hnf := nx_few (fis is) i
        have hn1 := HN1.out
        obtain ⟨rv, h1, h2⟩ := hn1
        rw [nxs_len] at h1
        have hl := h1.len
        have hk : i < rv.length := by omega
        obtain ⟨nb, no', e1, e2⟩ := h1.at1 (k := i) (u := rv[i]) (List.getElem?_eq_getElem hk)
        have hrv := h2 i _ _ (List.getElem?_eq_getElem hk) (nxs_at is i hi)
        generalize rv[i] = v at *
        obtain ⟨va, vc, rfl⟩ := hrv.shape
        have hnb : nb < og := by have := World.block_lt_of_cell? w1 _ e2; have := HOG.out; simp at *; omega
        have HRV1 := Lib.hid hrv
        have HE2 := Lib.hid e2
        subst e1
        clear hri hoi hx1 hx2 hx3 hst hno h1 h2 hl hrv e2 hk
        go_upto_region 12 with fail
        have r7 : Fr (only [og]) wr (wr.setCell ⟨og, i, none⟩ (.bool true)) := (Fr.refl _ wr).setCell _ _ (.inl (by simp))
        have HG7 : Hid ((wr.setCell ⟨og, i, none⟩ (.bool true)).heap[og]? = some (.cells (bools (ob.set i true)).toArray 4 (0, 0))) := Lib.hid (by rw [heap_setCell hG.out]; simp [bools, List.map_set])
        have R7 := Lib.hid (hfr.out.trans' r7 (fun i hi _ => by have := HOG.out; simp at hi; omega))
        have HX7 := Lib.hid (r7.heap HX1.out (by simp; omega))
        have HO7 := Lib.hid (owns_fr HX2.out r7 (fun k hk => by have := (HX2.out.lt k hk).1; simp; omega))
        clear r7 hG hfr cg fg HX1 HX2
        generalize wr.setCell ⟨og, i, none⟩ (.bool true) = w7 at *
        have cv := R7.out.cell HE2.out (by simp)
        have HRV := Lib.hid (HRV1.out.fr R7.out (by simp))
        clear HRV1 HE2
        generalize nx (fis is) i = nk at *
        have cs7 : w7.cell? ⟨B + 1, 0, none⟩ = some (.slice xa st.length xc) := cell_of_heap HX7.out rfl
        have hB7 : B + 1 < w7.heap.size := (Array.getElem?_eq_some_iff.1 HX7.out).1
        refine Lex.region [5, 6] [6, 1] (by kernel_rfl) (by kernel_rfl) ?_
        refine Lex.opens (fun w' => w'.cell? ⟨B + 1, 0, none⟩ = some (.slice xa st.length xc) ∧ w'.cell? ⟨nb, no' + i, none⟩ = some (.slice va nk.length vc)) (⟨cs7, cv⟩) ?_
        repeat (first
          | (refine Lex.skips (by rfl) ?_; (try simp only [Act.put, List.setIfInBounds_toArray, List.set_cons_zero, List.set_cons_succ]))
          | (refine Lex.quiet (v := ?_) (by rfl) (by rfl) ?_ ?_; rotate_left; (focus (intro w' hS'; go_simp; try rfl)); (try simp only [Act.put, List.setIfInBounds_toArray, List.set_cons_zero, List.set_cons_succ])))
        refine Lex.loud (by rfl) (by rfl) ?_
        intro K' hK'
        refine wp_append_at (.tmp 43) (.tmp 47) 22 rfl B 3 (.int .i64 0) 1 8 Try.underlying22 Try.infoInt rfl (by decide) (.slice xa st.length xc) st.length (ints (nats st)) (by simp [Act.eval]) (World.ownsRow.drew HO7.out) nk.length (ints (nats nk)) (HRV.out.fr ((Fr.refl no w7).drew) (by simp)) (ints_one' _) (by unfold maxLen; omega) (by omega) (by show B ≤ w7.heap.size; omega) ?_
        intro ga gc w8 ho hg hb
        have r8 := (Fr.refl (fun k => (Value.slice xa st.length xc).ownBlock = some k) w7).drew.trans ((Fr.refl (fun k => (Value.slice xa st.length xc).ownBlock = some k) _).grown hg (fun k hk => .inl hk))
        have HX8 := Lib.hid (r8.heap HX7.out HX3.out)
        have HG8 := Lib.hid (r8.heap HG7.out (fun h => by have := (HO7.out.lt _ h).1; omega))
        have R8 := Lib.hid (R7.out.trans' r8 (fun k hk _ => by have := (HO7.out.lt k hk).1; have := HOG.out; omega))
        have x1 : w8.cell? ⟨B + 1, 0, none⟩ = some (.slice xa st.length xc) := cell_of_heap HX8.out rfl
        have x2 := r8.cell cv (fun h => by have := (HO7.out.lt nb h).1; omega)
        have f8 : w8.frozen? ⟨B + 1, 0, none⟩ = false := frozen_of_heap HX8.out
        have HNE : Hid ((Value.slice ga (st.length + nk.length) gc).ownBlock ≠ some (B + 1)) := Lib.hid (fun h => by
          rcases hb _ h with h | h
          · exact HX3.out h
          · have h' : B + 1 = w7.heap.size := h
            omega)
        have HO8 := Lib.hid ho
        clear r8 ho hg hb cs7 cv HRV
        refine hK' _ _ (⟨x1, x2⟩) ?_
        clear hK'
        try simp only [Act.put, List.setIfInBounds_toArray, List.set_cons_zero, List.set_cons_succ]
        clear x2
        refine Lex.done ?_
        refine Lex.opens (fun _ => True) (trivial) ?_
        refine Lex.loud (by rfl) (by rfl) ?_
        intro K' hK'
        go_simp
        refine hK' _ _ (trivial) ?_
        clear hK'
        try simp only [Act.put, List.setIfInBounds_toArray, List.set_cons_zero, List.set_cons_succ]
        refine Lex.done ?_
        refine Lex.ends ?_
        have r9 : Fr (only [B + 1]) w8 (w8.setCell ⟨B + 1, 0, none⟩ (.slice ga (st.length + nk.length) gc)) := (Fr.refl _ w8).setCell _ _ (.inl (by simp))
        have HST9 : Hid (StackAt (w8.setCell ⟨B + 1, 0, none⟩ (.slice ga (st.length + nk.length) gc)) B (B + 1) (st ++ nk)) := Lib.hid ⟨_, by rw [heap_setCell HX8.out]; rfl, by
          rw [List.length_append]
          have := owns_fr HO8.out r9 (fun k hk => by have h1 : k ≠ B + 1 := fun e => HNE.out (e ▸ hk); simpa using h1)
          simpa [ints, nats] using this, HNE.out⟩
        have HG9 := Lib.hid (r9.heap HG8.out (by simp; omega))
        have R9 := Lib.hid (R8.out.trans' r9 (fun k hk _ => by have := HOG.out; simp at hk; omega))
        have hll : (st ++ nk).length = st.length + nk.length := List.length_append
        have HLL := Lib.hid hll
        clear r9 hll x1 f8 HO8 HG8 R8 HX8 HNE HX3 HO7 HX7 HG7 R7
        generalize w8.setCell ⟨B + 1, 0, none⟩ (.slice ga (st.length + nk.length) gc) = w9 at *
        go_wp2_with fail
        refine (pop_any w9 B (B + 1) (st ++ nk) HST9.out (by rw [HLL.out]; omega)).mono ?_
        rintro e w6 ⟨i2, bb2, st2, rfl, hst2, hmem, hno2, hcnt, r6⟩
        rw [HLL.out] at hcnt
        have HRI := Lib.hid (HRN.out.same hmem)
        have HG6 := Lib.hid (r6.heap HG9.out (by simp; omega))
        have HST6 := Lib.hid hst2
        have R6 := Lib.hid (R9.out.trans' r6 (fun i hi _ => by have := HOG.out; simp at hi; omega))
        have HNO := Lib.hid hno2
        have HCN : Hid (st2.length + (if bb2 then 1 else 0) + 2 * (ob.set i true).countP (fun b => !b) ≤ 2 * is.length + 1) := Lib.hid (by have := hcn.out; have := HCS.out; simp at *; omega)
        have HM : Hid (3 * cntF w6 og + lenS w6 (B + 1) + isT (.bool bb2) < 3 * cntF wr og + lenS wr (B + 1) + isT (.bool true)) := Lib.hid (by
          have := HCS.out
          rw [cntF_at HG6.out, HST6.out.len, HCF.out, HST0.out]
          cases bb2 <;> simp [isT] at hcnt ⊢ <;> omega)
        clear hst2 hmem hno2 hcnt r6 hcn HST0 HCF HST9 HG9 R9
        go_wp2_with fail
        go_roundw
        case rel => exact ⟨i2, bb2, _, st2, rfl, rfl, HOL, HG6, HST6, HRI, HNO, HCN, R6⟩
        case measure => exact HM.out
      · -- an old one
        rw [hoi] at cg
        have HRO := Lib.hid (RInv.old (i := i) (by have := hri.out; simpa [pend] using this) (by rw [List.getElem?_eq_getElem hio, hoi]))
        clear hri hoi
        go_wp2_with fail
        refine (pop_any wr B (B + 1) st hst.out (by omega)).mono ?_
        rintro e w6 ⟨i2, bb2, st2, rfl, hst2, hmem, hno2, hcnt, r6⟩
        have HRI := Lib.hid (HRO.out.same hmem)
        have HG6 := Lib.hid (r6.heap hG.out (by simp; omega))
        have HST6 := Lib.hid hst2
        have R6 := Lib.hid (hfr.out.trans' r6 (fun i hi _ => by have := HOG.out; simp at hi; omega))
        have HNO := Lib.hid hno2
        have HCN : Hid (st2.length + (if bb2 then 1 else 0) + 2 * ob.countP (fun b => !b) ≤ 2 * is.length + 1) := Lib.hid (by have := hcn.out; simp at this; omega)
        have HM : Hid (3 * cntF w6 og + lenS w6 (B + 1) + isT (.bool bb2) < 3 * cntF wr og + lenS wr (B + 1) + isT (.bool true)) := Lib.hid (by
          rw [cntF_at HG6.out, HST6.out.len, HCF.out, HST0.out]
          cases bb2 <;> simp [isT] at hcnt ⊢ <;> omega)
        clear hst2 hmem hno2 hcnt r6 hst hG HRO cg hcn hno hfr HST0 HCF
        go_wp2_with fail
        go_roundw
        case rel => exact ⟨i2, bb2, ob, st2, rfl, rfl, hol, HG6, HST6, HRI, HNO, HCN, R6⟩
        case measure => exact HM.out

end Go.Proofs.Ytofahdjnejodjaa

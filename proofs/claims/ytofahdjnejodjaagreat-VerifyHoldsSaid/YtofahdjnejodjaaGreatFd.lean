/- flow.Next. -/
import Derived.Test.YtofahdjnejodjaaGreatFc
set_option linter.unusedSimpArgs false
set_option linter.unusedVariables false
set_option linter.unusedSectionVars false
set_option linter.unnecessarySimpa false
namespace Go.Proofs.YtofahdjnejodjaaGreat
open Go.RowKit Go.Flow

attribute [local go_sem] Program.isFuncB Program.isSliceB

variable {w w' w'' w0 : World}

/-- rows of numbers of the call's own, each in a block of its own -/
structure Rows2 (w : World) (B : Nat) (vs : List Value) (ls : List (List Nat)) : Prop where
  len : vs.length = ls.length
  own : ∀ (k : Nat) (v : Value) (l : List Nat), vs[k]? = some v → ls[k]? = some l → w.ownsRow B 3 1 v l.length (ints (nats l))
  apart : ∀ (i j : Nat) (u v : Value), i ≠ j → vs[i]? = some u → vs[j]? = some v → ∀ b, u.ownBlock = some b → v.ownBlock ≠ some b
theorem Rows2.nil (w : World) (B : Nat) : Rows2 w B [] [] := ⟨rfl, fun k v l h => by simp at h, fun i j u v _ h => by simp at h⟩
theorem Rows2.fr {S : Nat → Prop} {B : Nat} {vs : List Value} {ls : List (List Nat)} (h : Rows2 w B vs ls) (r : Fr S w w') (hS : ∀ v ∈ vs, ∀ b, v.ownBlock = some b → ¬ S b) : Rows2 w' B vs ls :=
  ⟨h.len, fun k v l h1 h2 => owns_fr (h.own k v l h1 h2) r (hS v (List.mem_of_getElem? h1)), h.apart⟩
theorem Rows2.lt {B : Nat} {vs : List Value} {ls : List (List Nat)} (h : Rows2 w B vs ls) : ∀ v ∈ vs, ∀ b, v.ownBlock = some b → B ≤ b ∧ b < w.heap.size := by
  intro v hv b hb
  obtain ⟨k, hk, rfl⟩ := List.getElem_of_mem hv
  exact (h.own k _ _ (List.getElem?_eq_getElem hk) (List.getElem?_eq_getElem (by rw [← h.len]; exact hk))).lt b hb
theorem Rows2.snoc {B C : Nat} {vs : List Value} {ls : List (List Nat)} {v : Value} {l : List Nat} (h : Rows2 w B vs ls) (hv : w.ownsRow C 3 1 v l.length (ints (nats l))) (hC : B ≤ C) (ho : ∀ v ∈ vs, ∀ b, v.ownBlock = some b → b < C) : Rows2 w B (vs ++ [v]) (ls ++ [l]) := by
  have hlen := h.len
  refine ⟨by simp [h.len], fun k u m h1 h2 => ?_, fun i j u u' hij h1 h2 b hb => ?_⟩
  · by_cases hk : k < vs.length
    · rw [List.getElem?_append_left hk] at h1
      rw [List.getElem?_append_left (by omega)] at h2
      exact h.own k u m h1 h2
    · have : k = vs.length := by
        have := (List.getElem?_eq_some_iff.1 h1).1
        simp at this; omega
      subst this
      rw [List.getElem?_append_right (Nat.le_refl _)] at h1
      rw [List.getElem?_append_right (by omega)] at h2
      simp at h1
      rw [hlen] at h2
      simp at h2
      subst h1; subst h2
      exact owns_base hv (fun k hk => Nat.le_trans hC (hv.lt k hk).1)
  · have hi := (List.getElem?_eq_some_iff.1 h1).1
    have hj := (List.getElem?_eq_some_iff.1 h2).1
    rw [List.length_append, List.length_singleton] at hi hj
    by_cases hi1 : i < vs.length
    · rw [List.getElem?_append_left hi1] at h1
      by_cases hj1 : j < vs.length
      · rw [List.getElem?_append_left hj1] at h2
        exact h.apart i j u u' hij h1 h2 b hb
      · have : j = vs.length := by omega
        subst this
        rw [List.getElem?_append_right (Nat.le_refl _)] at h2
        simp at h2; subst h2
        intro e
        have := (hv.lt b e).1
        have := ho u (List.mem_of_getElem? h1) b hb
        omega
    · have : i = vs.length := by omega
      subst this
      rw [List.getElem?_append_right (Nat.le_refl _)] at h1
      simp at h1; subst h1
      have hj1 : j < vs.length := by omega
      rw [List.getElem?_append_left hj1] at h2
      intro e
      have := (hv.lt b hb).1
      have := ho u' (List.mem_of_getElem? h2) b e
      omega

/-- a list of lists of numbers, all memory of the call's own -/
def NxOwn (w' : World) (B : Nat) (u : Value) (ls : List (List Nat)) : Prop :=
  ∃ vs : List Value, Rows2 w' B vs ls ∧ w'.ownsRow B 45 1 u ls.length vs ∧ ∀ v ∈ vs, ∀ b, v.ownBlock = some b → u.ownBlock ≠ some b
/-- .. as it reads -/
def NxIn (w : World) (u : Value) (ls : List (List Nat)) : Prop :=
  ∃ vs : List Value, Reads w u 1 ls.length vs ∧ ∀ (k : Nat) (v : Value) (l : List Nat), vs[k]? = some v → ls[k]? = some l → Reads w v 1 l.length (ints (nats l))
theorem NxOwn.nx {B : Nat} {u : Value} {ls : List (List Nat)} (h : NxOwn w B u ls) : NxIn w u ls := by
  obtain ⟨vs, h1, h2, h3⟩ := h
  exact ⟨vs, owns_reads h2, fun k v l e1 e2 => owns_reads (h1.own k v l e1 e2)⟩
theorem NxIn.fr {u : Value} {ls : List (List Nat)} (h : NxIn w u ls) (r : Fr no w w') : NxIn w' u ls := by
  obtain ⟨vs, h1, h2⟩ := h
  exact ⟨vs, h1.fr r (by simp), fun k v l e1 e2 => (h2 k v l e1 e2).fr r (by simp)⟩

/-- the cells of a list in which the k-th place is at work -/
def outC (vs : List Value) (v : Value) (m : Nat) : Array Value := (vs ++ v :: List.replicate m (.slice none 0 0)).toArray
theorem outC_set (vs : List Value) (v u : Value) (m : Nat) : (outC vs v m).setIfInBounds vs.length u = outC vs u m := by
  unfold outC
  apply Array.ext_getElem?
  intro j
  simp only [List.setIfInBounds_toArray, List.getElem?_toArray, List.getElem?_set]
  by_cases hj : vs.length = j
  · subst hj; simp
  · rw [if_neg hj]
    by_cases h1 : j < vs.length
    · rw [List.getElem?_append_left h1, List.getElem?_append_left h1]
    · rw [List.getElem?_append_right (by omega), List.getElem?_append_right (by omega)]
      obtain ⟨d, hd⟩ : ∃ d, j - vs.length = d + 1 := ⟨j - vs.length - 1, by omega⟩
      rw [hd]; simp
theorem outC_at (vs : List Value) (v : Value) (m : Nat) : (outC vs v m)[vs.length]? = some v := by simp [outC]
theorem outC_next (vs : List Value) (v : Value) (m : Nat) : outC vs v (m + 1) = outC (vs ++ [v]) (.slice none 0 0) m := by
  simp [outC, List.replicate_succ]
theorem outC_end (vs : List Value) (v : Value) : outC vs v 0 = (vs ++ [v]).toArray := by simp [outC]
theorem outC_start (n : Nat) : (List.replicate (n + 1) (Value.slice none 0 0)).toArray = outC [] (.slice none 0 0) n := by simp [outC, List.replicate_succ]

theorem Tryz.infoInts : (Tryz.prog.info? 45).map (fun i => (i.zero, i.size, i.bytes)) = some (some (.slice none 0 0), 1, 24) := by kernel_rfl
/-- a row that fills its block -/
theorem owns_full {B n : Nat} {g : Nat} {e : TypeId} {xs : List Value} (h : w.ownsRow B e 1 (.slice (some ⟨g, 0, none⟩) n n) n xs) : w.heap[g]? = some (.cells xs.toArray e (0, 0)) := by
  rcases h.2 with ⟨hv, _⟩ | ⟨g', cap', cur, hv, hb, hg, h1, h2, h3, h4⟩
  · cases hv
  · cases hv
    rw [hg, ← h4, List.take_of_length_le (by simp [h3])]
theorem full_owns {B n g : Nat} {e : TypeId} {xs : List Value} (h : w.heap[g]? = some (.cells xs.toArray e (0, 0))) (hn : xs.length = n) (hB : B ≤ g) (hm : n ≤ maxLen) : w.ownsRow B e 1 (.slice (some ⟨g, 0, none⟩) n n) n xs :=
  ⟨by omega, .inr ⟨g, n, xs.toArray, rfl, hB, h, Nat.le_refl _, hm, by simp [hn], by simp [← hn]⟩⟩

/-- what Next answers: an error, or a list of lists -/
def NextPost (w : World) (ck : Int) (ls : List (List Nat)) (e : Ending) (w' : World) : Prop :=
  ∃ u, e = .returned (.tuple #[u, .int .i64 ck]) ∧ (ck ≠ 0 → u = .slice none 0 0) ∧ (ck = 0 → NxOwn w' w.heap.size u ls) ∧ Fr no w w'
theorem NextPost.bad {ck : Int} {ls : List (List Nat)} (h : ck ≠ 0) (r : Fr no w w') : NextPost w ck ls (.returned (.tuple #[.slice none 0 0, .int .i64 ck])) w' := ⟨_, rfl, fun _ => rfl, fun h0 => absurd h0 h, r⟩
theorem NextPost.good {ls : List (List Nat)} {u : Value} (h : NxOwn w' w.heap.size u ls) (r : Fr no w w') : NextPost w 0 ls (.returned (.tuple #[u, .int .i64 0])) w' := ⟨_, rfl, fun h0 => absurd rfl h0, fun _ => h, r⟩

set_option maxRecDepth 100000 in
set_option maxHeartbeats 4000000 in
theorem fnext_ok (w : World) (sa : Option Addr) (c : Nat) (is : List Ix) (hin : CodeIn w sa is) (hlen : is.length ≤ 1000) (hargs : ∀ i ∈ is, i.l.length ≤ 1000) (hN : ∀ i ∈ is, rng i.N) :
    Calls Tryz.prog 29 #[.slice sa is.length c] w (NextPost w (flowCk is) (nxs (fis is))) := by
  have HIN := Lib.hid hin
  have HRN := Lib.hid (fun i (hi : i ∈ is) => show rng (tgtI i) from by unfold tgtI; split; exact hN i hi; unfold rng; omega)
  have HC := Lib.hid (fcheck_ok w sa c is hin hlen hargs hN)
  have HNU := Lib.hid (fun w1 (r : Fr no w w1) (h : flowCk is = 0) => numbers_ok w1 sa c is (hin.fr r) hlen hargs (joinCk_zero is (flowCk_join h)).1)
  have HFL : Hid (flowCk is = 0 → Flows (fis is)) := Lib.hid flowCk_flows
  generalize flowCk is = ck at *
  clear hin hargs hN
  go_enter Tryz.func29, Tryz.ntmps29
  go_wp2_with fail
  refine HC.out.mono ?_
  rintro e w1 ⟨rfl, r1⟩
  have R1 := Lib.hid r1
  clear r1 HC
  by_cases hj : ck = 0
  case neg =>
    have e1 : (ck != 0) = true := by simpa using hj
    have HJ := Lib.hid hj
    clear hj
    go_wp2_with fail
    go_ret2
    exact NextPost.bad HJ.out R1.out
  have HNU1 := Lib.hid (HNU.out w1 R1.out hj)
  have HF := Lib.hid (HFL.out hj)
  subst hj
  clear HNU HFL
  go_wp2_with fail
  refine HNU1.out.mono ?_
  rintro e w2 ⟨rfl, hm, r2⟩
  have HM := Lib.hid hm
  have R2 := Lib.hid (R1.out.trans r2)
  have hb2 := HM.out.own.lt
  have hpos : 0 < is.length := by have := HF.out.pos; rw [fis_len] at this; exact this
  clear hm r2 HNU1
  go_upto_region 6 with ((refine wpList_make_any rfl (.tmp 19) (.tmp 19) 54 rfl w2.heap.size 45 (.slice none 0 0) 24 Tryz.underlying54 Tryz.infoInts rfl .i64 .i64 is.length is.length is.length rfl rfl rfl rfl (by omega) (by unfold maxLen; omega) (Nat.le_refl _) ?_); intro w3 ho3 hg3)
  obtain ⟨g, hg⟩ : ∃ g, g = w2.heap.size := ⟨_, rfl⟩
  have HG3 := Lib.hid (owns_full ho3)
  have q3 := (Fr.refl no w2).grown hg3 (by intro k hk; cases hk)
  have R3 := Lib.hid (R2.out.trans q3)
  have HM3 := Lib.hid (HM.out.fr q3 (by simp))
  have hgl : w2.heap.size < w3.heap.size := (ho3.lt _ rfl).2
  have hgw : w.heap.size ≤ w2.heap.size := R2.out.size
  rw [← hg] at hb2 HG3 hgl hgw ⊢
  clear ho3 hg3 q3 HM R2 hg
  go_wp2_with fail
  go_loopw [23] (fun y wr => ∃ (k : Nat) (vs : List Value), k ≤ is.length ∧ y = .int .i64 k ∧ vs.length = k ∧ Hid (wr.heap[g]? = some (.cells (vs ++ List.replicate (is.length - k) (Value.slice none 0 0)).toArray 45 (0, 0))) ∧
    Hid (Rows2 wr w.heap.size vs ((nxs (fis is)).take k)) ∧ Hid (∀ v ∈ vs, ∀ b, v.ownBlock = some b → b ≠ g) ∧ Hid (NumMap wr w1.heap.size (fis is)) ∧ Hid (Fr no w wr)) (fun y _ => (is.length - intOf y).toNat)
  case atStart => exact ⟨0, [], by omega, rfl, rfl, HG3, Lib.hid (Rows2.nil _ _), Lib.hid (by intro v hv; cases hv), HM3, R3⟩
  case round =>
    obtain ⟨k, vs, hk, rfl, hvl, hG, hrows, hng, hmap, hfr⟩ := hrel
    by_cases hks : k < is.length
    · have hks' : (k : Int) < is.length := by omega
      obtain ⟨m, hm⟩ : ∃ m, is.length - k = m + 1 := ⟨is.length - k - 1, by omega⟩
      have hm2 : is.length - (k + 1) = m := by omega
      rw [hm, List.replicate_succ] at hG
      have HG : Hid (wr.heap[g]? = some (.cells (outC vs (.slice none 0 0) m) 45 (0, 0))) := Lib.hid hG.out
      have HM2 := Lib.hid hm2
      clear hm hm2 hG
      have hgr : g < wr.heap.size := (Array.getElem?_eq_some_iff.1 HG.out).1
      have HVL := Lib.hid hvl
      obtain ⟨b, of, u, rfl, hi⟩ := HIN.out.fr hfr.out k hks
      obtain ⟨ua, uc, rfl⟩ := hi.args.shape
      obtain ⟨c0, c1, c2, c3, c4, c5⟩ := hi.six
      have HT : Hid (∀ w1 : World, Calls Tryz.prog 58 #[insV is[k].o is[k].A is[k].B is[k].C is[k].N (.slice ua is[k].l.length uc)] w1 fun e w' => e = .returned (.int .i64 (tgtI is[k])) ∧ Fr no w1 w') := Lib.hid (fun w1 => target_ok w1 is[k].o is[k].A is[k].B is[k].C is[k].N (.slice ua is[k].l.length uc))
      have HFA : Hid (∀ w1 : World, Calls Tryz.prog 57 #[insV is[k].o is[k].A is[k].B is[k].C is[k].N (.slice ua is[k].l.length uc)] w1 fun e w' => e = .returned (.bool (fiOf is[k]).fl) ∧ Fr no w1 w') := Lib.hid (fun w1 => falls_ok w1 is[k].o is[k].A is[k].B is[k].C is[k].N (.slice ua is[k].l.length uc))
      have HRT := Lib.hid (HRN.out is[k] (List.getElem_mem _))
      have HTP : Hid (∀ j, atO (fis is) (tgtI is[k]) = some j → 0 ≤ tgtI is[k] ∧ j < is.length) := Lib.hid (fun j h => by
        have h1 := atO_some h
        rw [fis_len] at h1
        omega)
      have HS : Hid (sortI (nats ((if (fiOf is[k]).fl then [k + 1] else []) ++ (match atO (fis is) (tgtI is[k]) with | some j => [j] | none => []))) = nats (nx (fis is) k)) := Lib.hid (by
        have := rawNx_sort (fis is) k (by rw [fis_len]; exact hks)
        rw [fis_at is k hks] at this
        exact this)
      have HTK : Hid ((nxs (fis is)).take k ++ [nx (fis is) k] = (nxs (fis is)).take (k + 1)) := Lib.hid (by
        have hl : k < (nxs (fis is)).length := by simp [nxs, fis_len, hks]
        rw [List.take_succ_eq_append_getElem hl]
        simp [nxs])
      have hnf := nx_few (fis is) k
      generalize tgtI is[k] = t at *
      generalize (fiOf is[k]).fl = fl at *
      generalize nx (fis is) k = nk at *
      generalize is[k] = ix at *
      clear hi hvl
      obtain ⟨io, iA, iB, iC, iN, il⟩ := ix
      dsimp only at c0 c1 c2 c3 c4 c5 HT HFA
      unfold insV at HT HFA
      have r5 := (Fr.refl no wr).alloc (.cells #[.int .i64 io, .int .i64 iA, .int .i64 iB, .int .i64 iC, .int .i64 iN, .slice ua il.length uc] 47)
      have HI5 := Lib.hid (heap_new wr (.cells #[.int .i64 io, .int .i64 iA, .int .i64 iB, .int .i64 iC, .int .i64 iN, .slice ua il.length uc] 47))
      have R5 := Lib.hid (r5)
      have hs5 : wr.heap.size < (wr.alloc (.cells #[.int .i64 io, .int .i64 iA, .int .i64 iB, .int .i64 iC, .int .i64 iN, .slice ua il.length uc] 47)).heap.size := by simp
      clear r5
      cases fl
      all_goals
        go_wp2_with fail
        refine (HFA.out _).mono ?_
        rintro e w6 ⟨rfl, r6⟩
        have R6 := Lib.hid (R5.out.trans r6)
        have HG6 := Lib.hid (R6.out.heap HG.out (by simp))
        have HI6 := Lib.hid (r6.heap HI5.out (by simp))
        have hs6 : wr.heap.size < w6.heap.size := Nat.lt_of_lt_of_le hs5 r6.size
        clear r6 hs5 c0 c1 c2 c3 c4 c5 HI5 R5 HFA
      · -- it ends
        have HV8 : Hid (w6.ownsRow wr.heap.size 3 1 (.slice none 0 0) (nats []).length (ints (nats []))) := Lib.hid (World.ownsRow_nil _ _ _ _)
        have R8 : Hid (Fr (only [g]) wr w6) := Lib.hid R6.out.to
        have HG8 := HG6
        have HI8 := HI6
        clear R6 HG6 HI6 hs6
        generalize w6 = w8 at *
        obtain ⟨i0, i1, i2, i3, i4, i5⟩ := cells6 HI8.out
        go_wp2_with fail
        refine (HT.out _).mono ?_
        rintro e w9 ⟨rfl, r9⟩
        have HV9 := Lib.hid (owns_fr HV8.out r9 (by simp))
        have HG9 := Lib.hid (r9.heap HG8.out (by simp))
        have HI9 := Lib.hid (r9.heap HI8.out (by simp))
        have R9 := Lib.hid (R8.out.trans r9.to)
        have HM9 := Lib.hid (hmap.out.fr R9.out (by simp; omega))
        have L := (num_run w9 w1.heap.size (fis is) HM9.out t HRT.out).1
        clear r9 i0 i1 i2 i3 i4 i5 HV8 HG8 HI8 R8
        cases ha : atO (fis is) t
        · -- no target
          have HSS := HS.out
          rw [ha] at HSS L
          simp only [Bool.false_eq_true, if_false, if_true, List.nil_append, List.append_nil, List.cons_append, List.singleton_append, Option.getD, Option.isSome] at HSS L
          have HS2 := Lib.hid HSS
          clear HSS HS ha
          go_upto_region 14 with fail
          have HV12 := HV9
          have HG12 := HG9
          have R12 := R9
          clear HV9 HG9 R9 HI9 HM9 L
          generalize w9 = w12 at *
          have cg12 : w12.cell? ⟨g, k, none⟩ = some (.slice none 0 0) := cell_of_heap HG12.out (by rw [← HVL.out]; exact outC_at _ _ _)
          have HSO := Lib.hid (sorted_ok w12 wr.heap.size (.slice none 0 0) (nats []) HV12.out (by simp [nats]))
          rw [HS2.out, nats_len] at HSO
          go_wp2_with fail
          refine HSO.out.mono ?_
          rintro e w13 ⟨x, rfl, ho13, hu13, r13⟩
          obtain ⟨xa, xc, rfl⟩ := owns_shape ho13
          have HG13 := Lib.hid (r13.heap HG12.out (fun e => by have := (HV12.out.lt g e).1; omega))
          have R13 := Lib.hid (R12.out.trans' r13 (fun i hi _ => (HV12.out.lt i hi).1))
          have cg13 : w13.cell? ⟨g, k, none⟩ = some (.slice none 0 0) := cell_of_heap HG13.out (by rw [← HVL.out]; exact outC_at _ _ _)
          have fg13 : w13.frozen? ⟨g, k, none⟩ = false := frozen_of_heap HG13.out
          have r14 : Fr (only [g]) w13 (w13.setCell ⟨g, k, none⟩ (.slice xa nk.length xc)) := (Fr.refl _ w13).setCell _ _ (.inl (by simp))
          have HG14 : Hid ((w13.setCell ⟨g, k, none⟩ (.slice xa nk.length xc)).heap[g]? = some (.cells ((vs ++ [Value.slice xa nk.length xc]) ++ List.replicate (is.length - (k + 1)) (Value.slice none 0 0)).toArray 45 (0, 0))) := Lib.hid (by rw [heap_setCell HG13.out, ← HVL.out, outC_set, HVL.out, HM2.out]; unfold outC; simp)
          have R14 := Lib.hid (R13.out.trans r14)
          have HV14 := Lib.hid (owns_fr ho13 r14 (fun b hb => by have := (ho13.lt b hb).1; simp; omega))
          have HR14 : Hid (Rows2 (w13.setCell ⟨g, k, none⟩ (.slice xa nk.length xc)) w.heap.size (vs ++ [Value.slice xa nk.length xc]) ((nxs (fis is)).take (k + 1))) := Lib.hid (by
            rw [← HTK.out]
            exact (hrows.out.fr R14.out (fun v hv b hb => by have := hng.out v hv b hb; simpa using this)).snoc HV14.out hfr.out.size (fun v hv b hb => (hrows.out.lt v hv b hb).2))
          have HN14 : Hid (∀ v ∈ vs ++ [Value.slice xa nk.length xc], ∀ b, v.ownBlock = some b → b ≠ g) := Lib.hid (fun v hv b hb => by
            rcases List.mem_append.1 hv with hv | hv
            · exact hng.out v hv b hb
            · rw [List.mem_singleton] at hv; subst hv; have := (ho13.lt b hb).1; omega)
          have HM14 := Lib.hid (hmap.out.fr R14.out (by simp; omega))
          have RR := Lib.hid (hfr.out.trans' R14.out (fun i hi _ => by simp at hi; omega))
          clear r14 r13 ho13 hu13 cg12 HV12 HG12 R12 HG13 R13 HV14 R14
          go_wp2_with fail
          go_roundw
          case rel => exact ⟨k + 1, _, by omega, by go_num, by simp [HVL.out], HG14, HR14, HN14, HM14, RR⟩
          case measure => first | (simp [intOf]; done) | (simp [intOf]; omega)
        · -- a target
          rename_i j
          obtain ⟨ht0, hjl⟩ := HTP.out j ha
          have HSS := HS.out
          rw [ha] at HSS L
          simp only [Bool.false_eq_true, if_false, if_true, List.nil_append, List.append_nil, List.cons_append, List.singleton_append, Option.getD, Option.isSome] at HSS L
          have HS2 := Lib.hid HSS
          clear HSS HS ha
          obtain ⟨i0, i1, i2, i3, i4, i5⟩ := cells6 HI9.out
          go_wp2_with fail
          refine (HT.out _).mono ?_
          rintro e w10 ⟨rfl, r10⟩
          have HV10 := Lib.hid (owns_fr HV9.out r10 (by simp))
          have HG10 := Lib.hid (r10.heap HG9.out (by simp))
          have R10 := Lib.hid (R9.out.trans r10.to)
          have cg10 : w10.cell? ⟨g, k, none⟩ = some (.slice none 0 0) := cell_of_heap HG10.out (by rw [← HVL.out]; exact outC_at _ _ _)
          have hs10 : wr.heap.size ≤ w10.heap.size := R10.out.size
          clear r10 i0 i1 i2 i3 i4 i5 HV9 HG9 HI9 R9 L
          go_upto_region 14 with (at_builtin; (refine wpList_append_at rfl (.tmp 59) _ 45 rfl wr.heap.size 3 (.int .i64 0) 1 8 Tryz.underlying45 Tryz.infoInt rfl (by decide) _ 0 _ rfl (HV10.out.alloc _) 1 _ (reads_one w10 _ _) int_one (by unfold maxLen; omega) (by omega) (by simp; omega) ?_); intro gaw11 gcw11 w11 how11 hgww11 hgbw11; have rw11 := ((Fr.refl (fun k => (Value.slice none 0 0).ownBlock = some k) w10).alloc (.cells #[.int .i64 j] 3)).trans ((Fr.refl (fun k => (Value.slice none 0 0).ownBlock = some k) _).grown hgww11 (fun k hk => .inl hk)); have HG11 := Lib.hid (rw11.heap HG10.out (fun e => by have := (HV10.out.lt g e).1; omega)); have R11 := Lib.hid (R10.out.trans' rw11 (fun i hi _ => (HV10.out.lt i hi).1)); have cg11 : w11.cell? ⟨g, k, none⟩ = some (.slice none 0 0) := cell_of_heap HG11.out (by rw [← HVL.out]; exact outC_at _ _ _); have fg11 : w11.frozen? ⟨g, k, none⟩ = false := frozen_of_heap HG11.out; clear cg10 rw11 hgww11 hgbw11)
          have r12 : Fr (only [g]) w11 (w11.setCell ⟨g, k, none⟩ (.slice gaw11 1 gcw11)) := (Fr.refl _ w11).setCell _ _ (.inl (by simp))
          have HG12 : Hid ((w11.setCell ⟨g, k, none⟩ (.slice gaw11 1 gcw11)).heap[g]? = some (.cells (outC vs (.slice gaw11 1 gcw11) m) 45 (0, 0))) := Lib.hid (by rw [heap_setCell HG11.out, ← HVL.out, outC_set])
          have R12 := Lib.hid (R11.out.trans r12)
          have HV12 : Hid ((w11.setCell ⟨g, k, none⟩ (.slice gaw11 1 gcw11)).ownsRow wr.heap.size 3 1 (.slice gaw11 1 gcw11) (nats [j]).length (ints (nats [j]))) := Lib.hid (owns_fr (by simpa [ints, nats] using how11) r12 (fun b hb => by have := (how11.lt b hb).1; simp; omega))
          clear r12 how11 HG11 R11 cg11 fg11 HV10 HG10 R10 hs10
          generalize w11.setCell ⟨g, k, none⟩ (.slice gaw11 1 gcw11) = w12 at *
          have cg12 : w12.cell? ⟨g, k, none⟩ = some (.slice gaw11 1 gcw11) := cell_of_heap HG12.out (by rw [← HVL.out]; exact outC_at _ _ _)
          have HSO := Lib.hid (sorted_ok w12 wr.heap.size (.slice gaw11 1 gcw11) (nats [j]) HV12.out (by simp [nats]))
          rw [HS2.out, nats_len] at HSO
          go_wp2_with fail
          refine HSO.out.mono ?_
          rintro e w13 ⟨x, rfl, ho13, hu13, r13⟩
          obtain ⟨xa, xc, rfl⟩ := owns_shape ho13
          have HG13 := Lib.hid (r13.heap HG12.out (fun e => by have := (HV12.out.lt g e).1; omega))
          have R13 := Lib.hid (R12.out.trans' r13 (fun i hi _ => (HV12.out.lt i hi).1))
          have cg13 : w13.cell? ⟨g, k, none⟩ = some (.slice gaw11 1 gcw11) := cell_of_heap HG13.out (by rw [← HVL.out]; exact outC_at _ _ _)
          have fg13 : w13.frozen? ⟨g, k, none⟩ = false := frozen_of_heap HG13.out
          have r14 : Fr (only [g]) w13 (w13.setCell ⟨g, k, none⟩ (.slice xa nk.length xc)) := (Fr.refl _ w13).setCell _ _ (.inl (by simp))
          have HG14 : Hid ((w13.setCell ⟨g, k, none⟩ (.slice xa nk.length xc)).heap[g]? = some (.cells ((vs ++ [Value.slice xa nk.length xc]) ++ List.replicate (is.length - (k + 1)) (Value.slice none 0 0)).toArray 45 (0, 0))) := Lib.hid (by rw [heap_setCell HG13.out, ← HVL.out, outC_set, HVL.out, HM2.out]; unfold outC; simp)
          have R14 := Lib.hid (R13.out.trans r14)
          have HV14 := Lib.hid (owns_fr ho13 r14 (fun b hb => by have := (ho13.lt b hb).1; simp; omega))
          have HR14 : Hid (Rows2 (w13.setCell ⟨g, k, none⟩ (.slice xa nk.length xc)) w.heap.size (vs ++ [Value.slice xa nk.length xc]) ((nxs (fis is)).take (k + 1))) := Lib.hid (by
            rw [← HTK.out]
            exact (hrows.out.fr R14.out (fun v hv b hb => by have := hng.out v hv b hb; simpa using this)).snoc HV14.out hfr.out.size (fun v hv b hb => (hrows.out.lt v hv b hb).2))
          have HN14 : Hid (∀ v ∈ vs ++ [Value.slice xa nk.length xc], ∀ b, v.ownBlock = some b → b ≠ g) := Lib.hid (fun v hv b hb => by
            rcases List.mem_append.1 hv with hv | hv
            · exact hng.out v hv b hb
            · rw [List.mem_singleton] at hv; subst hv; have := (ho13.lt b hb).1; omega)
          have HM14 := Lib.hid (hmap.out.fr R14.out (by simp; omega))
          have RR := Lib.hid (hfr.out.trans' R14.out (fun i hi _ => by simp at hi; omega))
          clear r14 r13 ho13 hu13 cg12 HV12 HG12 R12 HG13 R13 HV14 R14
          go_wp2_with fail
          go_roundw
          case rel => exact ⟨k + 1, _, by omega, by go_num, by simp [HVL.out], HG14, HR14, HN14, HM14, RR⟩
          case measure => first | (simp [intOf]; done) | (simp [intOf]; omega)
      · -- it goes on
        have cg6 : w6.cell? ⟨g, k, none⟩ = some (.slice none 0 0) := cell_of_heap HG6.out (by rw [← HVL.out]; exact outC_at _ _ _)
        go_upto_region 11 with (at_builtin; (refine wpList_append_at rfl (.tmp 35) _ 45 rfl wr.heap.size 3 (.int .i64 0) 1 8 Tryz.underlying45 Tryz.infoInt rfl (by decide) _ 0 [] rfl (World.ownsRow_nil _ _ _ _) 1 _ (reads_one w6 _ _) int_one (by unfold maxLen; omega) (by omega) (by simp; omega) ?_); intro gaw7 gcw7 w7 how7 hgww7 hgbw7; have rw7 := ((Fr.refl (fun k => (Value.slice none 0 0).ownBlock = some k) w6).alloc (.cells #[.int .i64 (k + 1)] 3)).trans ((Fr.refl (fun k => (Value.slice none 0 0).ownBlock = some k) _).grown hgww7 (fun k hk => .inl hk)); have HG7 := Lib.hid (rw7.heap HG6.out (by simp [Value.ownBlock])); have HI7 := Lib.hid (rw7.heap HI6.out (by simp [Value.ownBlock])); have R7 := Lib.hid (R6.out.trans (rw7.mono (T := no) (fun k hk _ => by simp [Value.ownBlock] at hk))); have cg7 : w7.cell? ⟨g, k, none⟩ = some (.slice none 0 0) := cell_of_heap HG7.out (by rw [← HVL.out]; exact outC_at _ _ _); have fg7 : w7.frozen? ⟨g, k, none⟩ = false := frozen_of_heap HG7.out; clear cg6 rw7 hgww7 hgbw7)
        have r8 : Fr (only [g]) w7 (w7.setCell ⟨g, k, none⟩ (.slice gaw7 1 gcw7)) := (Fr.refl _ w7).setCell _ _ (.inl (by simp))
        have HG8 : Hid ((w7.setCell ⟨g, k, none⟩ (.slice gaw7 1 gcw7)).heap[g]? = some (.cells (outC vs (.slice gaw7 1 gcw7) m) 45 (0, 0))) := Lib.hid (by rw [heap_setCell HG7.out, ← HVL.out, outC_set])
        have HI8 := Lib.hid (r8.heap HI7.out (by simp; omega))
        have R8 := Lib.hid (R7.out.to.trans r8)
        have HV8 : Hid ((w7.setCell ⟨g, k, none⟩ (.slice gaw7 1 gcw7)).ownsRow wr.heap.size 3 1 (.slice gaw7 1 gcw7) (nats [k + 1]).length (ints (nats [k + 1]))) := Lib.hid (owns_fr (by simpa [ints, nats] using how7) r8 (fun b hb => by have := (how7.lt b hb).1; simp; omega))
        clear r8 how7 HG7 HI7 R7 cg7 fg7 HG6 HI6 R6 hs6
        generalize w7.setCell ⟨g, k, none⟩ (.slice gaw7 1 gcw7) = w8 at *
        obtain ⟨i0, i1, i2, i3, i4, i5⟩ := cells6 HI8.out
        go_wp2_with fail
        refine (HT.out _).mono ?_
        rintro e w9 ⟨rfl, r9⟩
        have HV9 := Lib.hid (owns_fr HV8.out r9 (by simp))
        have HG9 := Lib.hid (r9.heap HG8.out (by simp))
        have HI9 := Lib.hid (r9.heap HI8.out (by simp))
        have R9 := Lib.hid (R8.out.trans r9.to)
        have HM9 := Lib.hid (hmap.out.fr R9.out (by simp; omega))
        have L := (num_run w9 w1.heap.size (fis is) HM9.out t HRT.out).1
        clear r9 i0 i1 i2 i3 i4 i5 HV8 HG8 HI8 R8
        cases ha : atO (fis is) t
        · -- no target
          have HSS := HS.out
          rw [ha] at HSS L
          simp only [Bool.false_eq_true, if_false, if_true, List.nil_append, List.append_nil, List.cons_append, List.singleton_append, Option.getD, Option.isSome] at HSS L
          have HS2 := Lib.hid HSS
          clear HSS HS ha
          go_upto_region 14 with fail
          have HV12 := HV9
          have HG12 := HG9
          have R12 := R9
          clear HV9 HG9 R9 HI9 HM9 L
          generalize w9 = w12 at *
          have cg12 : w12.cell? ⟨g, k, none⟩ = some (.slice gaw7 1 gcw7) := cell_of_heap HG12.out (by rw [← HVL.out]; exact outC_at _ _ _)
          have HSO := Lib.hid (sorted_ok w12 wr.heap.size (.slice gaw7 1 gcw7) (nats [k + 1]) HV12.out (by simp [nats]))
          rw [HS2.out, nats_len] at HSO
          go_wp2_with fail
          refine HSO.out.mono ?_
          rintro e w13 ⟨x, rfl, ho13, hu13, r13⟩
          obtain ⟨xa, xc, rfl⟩ := owns_shape ho13
          have HG13 := Lib.hid (r13.heap HG12.out (fun e => by have := (HV12.out.lt g e).1; omega))
          have R13 := Lib.hid (R12.out.trans' r13 (fun i hi _ => (HV12.out.lt i hi).1))
          have cg13 : w13.cell? ⟨g, k, none⟩ = some (.slice gaw7 1 gcw7) := cell_of_heap HG13.out (by rw [← HVL.out]; exact outC_at _ _ _)
          have fg13 : w13.frozen? ⟨g, k, none⟩ = false := frozen_of_heap HG13.out
          have r14 : Fr (only [g]) w13 (w13.setCell ⟨g, k, none⟩ (.slice xa nk.length xc)) := (Fr.refl _ w13).setCell _ _ (.inl (by simp))
          have HG14 : Hid ((w13.setCell ⟨g, k, none⟩ (.slice xa nk.length xc)).heap[g]? = some (.cells ((vs ++ [Value.slice xa nk.length xc]) ++ List.replicate (is.length - (k + 1)) (Value.slice none 0 0)).toArray 45 (0, 0))) := Lib.hid (by rw [heap_setCell HG13.out, ← HVL.out, outC_set, HVL.out, HM2.out]; unfold outC; simp)
          have R14 := Lib.hid (R13.out.trans r14)
          have HV14 := Lib.hid (owns_fr ho13 r14 (fun b hb => by have := (ho13.lt b hb).1; simp; omega))
          have HR14 : Hid (Rows2 (w13.setCell ⟨g, k, none⟩ (.slice xa nk.length xc)) w.heap.size (vs ++ [Value.slice xa nk.length xc]) ((nxs (fis is)).take (k + 1))) := Lib.hid (by
            rw [← HTK.out]
            exact (hrows.out.fr R14.out (fun v hv b hb => by have := hng.out v hv b hb; simpa using this)).snoc HV14.out hfr.out.size (fun v hv b hb => (hrows.out.lt v hv b hb).2))
          have HN14 : Hid (∀ v ∈ vs ++ [Value.slice xa nk.length xc], ∀ b, v.ownBlock = some b → b ≠ g) := Lib.hid (fun v hv b hb => by
            rcases List.mem_append.1 hv with hv | hv
            · exact hng.out v hv b hb
            · rw [List.mem_singleton] at hv; subst hv; have := (ho13.lt b hb).1; omega)
          have HM14 := Lib.hid (hmap.out.fr R14.out (by simp; omega))
          have RR := Lib.hid (hfr.out.trans' R14.out (fun i hi _ => by simp at hi; omega))
          clear r14 r13 ho13 hu13 cg12 HV12 HG12 R12 HG13 R13 HV14 R14
          go_wp2_with fail
          go_roundw
          case rel => exact ⟨k + 1, _, by omega, by go_num, by simp [HVL.out], HG14, HR14, HN14, HM14, RR⟩
          case measure => first | (simp [intOf]; done) | (simp [intOf]; omega)
        · -- a target
          rename_i j
          obtain ⟨ht0, hjl⟩ := HTP.out j ha
          have HSS := HS.out
          rw [ha] at HSS L
          simp only [Bool.false_eq_true, if_false, if_true, List.nil_append, List.append_nil, List.cons_append, List.singleton_append, Option.getD, Option.isSome] at HSS L
          have HS2 := Lib.hid HSS
          clear HSS HS ha
          obtain ⟨i0, i1, i2, i3, i4, i5⟩ := cells6 HI9.out
          go_wp2_with fail
          refine (HT.out _).mono ?_
          rintro e w10 ⟨rfl, r10⟩
          have HV10 := Lib.hid (owns_fr HV9.out r10 (by simp))
          have HG10 := Lib.hid (r10.heap HG9.out (by simp))
          have R10 := Lib.hid (R9.out.trans r10.to)
          have cg10 : w10.cell? ⟨g, k, none⟩ = some (.slice gaw7 1 gcw7) := cell_of_heap HG10.out (by rw [← HVL.out]; exact outC_at _ _ _)
          have hs10 : wr.heap.size ≤ w10.heap.size := R10.out.size
          clear r10 i0 i1 i2 i3 i4 i5 HV9 HG9 HI9 R9 L
          go_upto_region 14 with (at_builtin; (refine wpList_append_at rfl (.tmp 59) _ 45 rfl wr.heap.size 3 (.int .i64 0) 1 8 Tryz.underlying45 Tryz.infoInt rfl (by decide) _ 1 _ rfl (HV10.out.alloc _) 1 _ (reads_one w10 _ _) int_one (by unfold maxLen; omega) (by omega) (by simp; omega) ?_); intro gaw11 gcw11 w11 how11 hgww11 hgbw11; have rw11 := ((Fr.refl (fun k => (Value.slice gaw7 1 gcw7).ownBlock = some k) w10).alloc (.cells #[.int .i64 j] 3)).trans ((Fr.refl (fun k => (Value.slice gaw7 1 gcw7).ownBlock = some k) _).grown hgww11 (fun k hk => .inl hk)); have HG11 := Lib.hid (rw11.heap HG10.out (fun e => by have := (HV10.out.lt g e).1; omega)); have R11 := Lib.hid (R10.out.trans' rw11 (fun i hi _ => (HV10.out.lt i hi).1)); have cg11 : w11.cell? ⟨g, k, none⟩ = some (.slice gaw7 1 gcw7) := cell_of_heap HG11.out (by rw [← HVL.out]; exact outC_at _ _ _); have fg11 : w11.frozen? ⟨g, k, none⟩ = false := frozen_of_heap HG11.out; clear cg10 rw11 hgww11 hgbw11)
          have r12 : Fr (only [g]) w11 (w11.setCell ⟨g, k, none⟩ (.slice gaw11 2 gcw11)) := (Fr.refl _ w11).setCell _ _ (.inl (by simp))
          have HG12 : Hid ((w11.setCell ⟨g, k, none⟩ (.slice gaw11 2 gcw11)).heap[g]? = some (.cells (outC vs (.slice gaw11 2 gcw11) m) 45 (0, 0))) := Lib.hid (by rw [heap_setCell HG11.out, ← HVL.out, outC_set])
          have R12 := Lib.hid (R11.out.trans r12)
          have HV12 : Hid ((w11.setCell ⟨g, k, none⟩ (.slice gaw11 2 gcw11)).ownsRow wr.heap.size 3 1 (.slice gaw11 2 gcw11) (nats [k + 1, j]).length (ints (nats [k + 1, j]))) := Lib.hid (owns_fr (by simpa [ints, nats] using how11) r12 (fun b hb => by have := (how11.lt b hb).1; simp; omega))
          clear r12 how11 HG11 R11 cg11 fg11 HV10 HG10 R10 hs10
          generalize w11.setCell ⟨g, k, none⟩ (.slice gaw11 2 gcw11) = w12 at *
          have cg12 : w12.cell? ⟨g, k, none⟩ = some (.slice gaw11 2 gcw11) := cell_of_heap HG12.out (by rw [← HVL.out]; exact outC_at _ _ _)
          have HSO := Lib.hid (sorted_ok w12 wr.heap.size (.slice gaw11 2 gcw11) (nats [k + 1, j]) HV12.out (by simp [nats]))
          rw [HS2.out, nats_len] at HSO
          go_wp2_with fail
          refine HSO.out.mono ?_
          rintro e w13 ⟨x, rfl, ho13, hu13, r13⟩
          obtain ⟨xa, xc, rfl⟩ := owns_shape ho13
          have HG13 := Lib.hid (r13.heap HG12.out (fun e => by have := (HV12.out.lt g e).1; omega))
          have R13 := Lib.hid (R12.out.trans' r13 (fun i hi _ => (HV12.out.lt i hi).1))
          have cg13 : w13.cell? ⟨g, k, none⟩ = some (.slice gaw11 2 gcw11) := cell_of_heap HG13.out (by rw [← HVL.out]; exact outC_at _ _ _)
          have fg13 : w13.frozen? ⟨g, k, none⟩ = false := frozen_of_heap HG13.out
          have r14 : Fr (only [g]) w13 (w13.setCell ⟨g, k, none⟩ (.slice xa nk.length xc)) := (Fr.refl _ w13).setCell _ _ (.inl (by simp))
          have HG14 : Hid ((w13.setCell ⟨g, k, none⟩ (.slice xa nk.length xc)).heap[g]? = some (.cells ((vs ++ [Value.slice xa nk.length xc]) ++ List.replicate (is.length - (k + 1)) (Value.slice none 0 0)).toArray 45 (0, 0))) := Lib.hid (by rw [heap_setCell HG13.out, ← HVL.out, outC_set, HVL.out, HM2.out]; unfold outC; simp)
          have R14 := Lib.hid (R13.out.trans r14)
          have HV14 := Lib.hid (owns_fr ho13 r14 (fun b hb => by have := (ho13.lt b hb).1; simp; omega))
          have HR14 : Hid (Rows2 (w13.setCell ⟨g, k, none⟩ (.slice xa nk.length xc)) w.heap.size (vs ++ [Value.slice xa nk.length xc]) ((nxs (fis is)).take (k + 1))) := Lib.hid (by
            rw [← HTK.out]
            exact (hrows.out.fr R14.out (fun v hv b hb => by have := hng.out v hv b hb; simpa using this)).snoc HV14.out hfr.out.size (fun v hv b hb => (hrows.out.lt v hv b hb).2))
          have HN14 : Hid (∀ v ∈ vs ++ [Value.slice xa nk.length xc], ∀ b, v.ownBlock = some b → b ≠ g) := Lib.hid (fun v hv b hb => by
            rcases List.mem_append.1 hv with hv | hv
            · exact hng.out v hv b hb
            · rw [List.mem_singleton] at hv; subst hv; have := (ho13.lt b hb).1; omega)
          have HM14 := Lib.hid (hmap.out.fr R14.out (by simp; omega))
          have RR := Lib.hid (hfr.out.trans' R14.out (fun i hi _ => by simp at hi; omega))
          clear r14 r13 ho13 hu13 cg12 HV12 HG12 R12 HG13 R13 HV14 R14
          go_wp2_with fail
          go_roundw
          case rel => exact ⟨k + 1, _, by omega, by go_num, by simp [HVL.out], HG14, HR14, HN14, HM14, RR⟩
          case measure => first | (simp [intOf]; done) | (simp [intOf]; omega)
    · obtain rfl : k = is.length := by omega
      have HQ : Hid (NxOwn wr w.heap.size (.slice (some ⟨g, 0, none⟩) is.length is.length) (nxs (fis is))) := Lib.hid (by
        have hl : (nxs (fis is)).length = is.length := by simp [nxs, fis_len]
        have h1 := hrows.out
        rw [← hl, List.take_length] at h1
        refine ⟨vs, h1, ?_, fun v hv b hb e => hng.out v hv b hb (by simpa [Value.ownBlock] using e.symm)⟩
        rw [hl]
        refine full_owns ?_ hvl hgw (by unfold maxLen; omega)
        have := hG.out
        rw [Nat.sub_self, List.replicate_zero, List.append_nil] at this
        exact this)
      clear hrows hng hmap hG hvl
      go_wp2_with fail
      go_ret2
      exact NextPost.good HQ.out hfr.out

end Go.Proofs.YtofahdjnejodjaaGreat

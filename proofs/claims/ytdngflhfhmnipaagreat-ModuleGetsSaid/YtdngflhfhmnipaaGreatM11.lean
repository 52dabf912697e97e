/- module.Get's reader: block. -/
import Derived.Test.YtdngflhfhmnipaaGreatM10
set_option linter.unusedSimpArgs false
set_option linter.unusedVariables false
set_option linter.unusedSectionVars false
set_option linter.unnecessarySimpa false
namespace Go.Proofs.YtdngflhfhmnipaaGreat
open Go.RowKit

attribute [local go_sem] Program.isFuncB Program.isSliceB

variable {w w' w'' w0 : World}

def blockS (bs : List Nat) (most : Nat) (s : Pl) : Pl := if (takeP bs 2 s).2.er = 0 ∧ most < unle (takeP bs 2 s).1 then failP (takeP bs 2 s).2 3 s.at_ else (takeP bs 2 s).2
def blockP (bs : List Nat) (most : Nat) (s : Pl) : List Nat × Pl := takeP bs (unle (takeP bs 2 s).1) (blockS bs most s)

set_option maxRecDepth 100000 in
set_option maxHeartbeats 4000000 in
theorem block_ok (w : World) (rb pb tb o most : Nat) (bv dv fv : Value) (bs : List Nat) (s : Pl) (cs : Array Value) (T : TypeId) (hr : w.heap[rb]? = some (.cells #[.pointer (some ⟨pb, 0, none⟩), dv, fv] 68 (0, 0)))
    (hp : PlAt w pb bv bs s) (ht : w.heap[tb]? = some (.cells cs T (0, 0))) (h0 : o < cs.size) (hlt : ∀ b ∈ bs, b < 256) (hbl : bs.length ≤ 100000) (hne : tb ≠ pb) (hbt : ∀ k, bv.ownBlock = some k → k ≠ tb ∧ k < w.heap.size) (hm : most ≤ 100000) :
    Calls Tryz.prog 38 #[.pointer (some ⟨rb, 0, none⟩), .pointer (some ⟨tb, o, none⟩), .int .i64 most] w fun e w' => e = .returned (.pointer (some ⟨rb, 0, none⟩)) ∧ PlAt w' pb bv bs (blockP bs most s).2 ∧
      (∃ v, w'.heap[tb]? = some (.cells (cs.setIfInBounds o v) T (0, 0)) ∧ w'.ownsRow w.heap.size 5 1 v (blockP bs most s).1.length (u8s (blockP bs most s).1) ∧ Nums .u8 w' v) ∧ Fr (only [pb, tb]) w w' := by
  have hbl2 := (Array.getElem?_eq_some_iff.1 hr).1
  have htl := (Array.getElem?_eq_some_iff.1 ht).1
  have hpl := (Array.getElem?_eq_some_iff.1 hp.obj).1
  have r0 := (Fr.refl no w).alloc (.cells #[.int .i64 0] 3)
  have HN := Lib.hid (num_ok (w.alloc (.cells #[.int .i64 0] 3)) rb pb w.heap.size 0 2 bv dv fv bs s #[.int .i64 0] 3 (r0.heap hr (by simp)) (hp.fn r0) (heap_new w _) rfl (.inr rfl) hlt hbl (by omega) (fun k hk => by have := (hbt k hk).2; omega))
  have nrp := block_ne hr hp.obj (by decide)
  have RR := Lib.hid (r0.heap hr (by simp))
  have TT := Lib.hid (r0.heap ht (by simp))
  have c0 : w.cell? ⟨rb, 0, none⟩ = some (.pointer (some ⟨pb, 0, none⟩)) := cell_of_heap hr rfl
  have d1 : w.cell? ⟨pb, 1, none⟩ = some (.int .i64 s.at_) := cell_of_heap hp.obj rfl
  have R0 := Lib.hid r0
  have HS : Hid (blockS bs most s = if (takeP bs 2 s).2.er = 0 ∧ most < unle (takeP bs 2 s).1 then failP (takeP bs 2 s).2 3 s.at_ else (takeP bs 2 s).2) := Lib.hid rfl
  have HB : Hid (blockP bs most s = takeP bs (unle (takeP bs 2 s).1) (blockS bs most s)) := Lib.hid rfl
  have hu : Hid (unle (takeP bs 2 s).1 < 65536) := Lib.hid (unle_two _ (takeP_lt hlt 2 s) (by rcases takeP_cases bs 2 s hp.le with ⟨h, -⟩ | ⟨h, -⟩ <;> rw [h] <;> simp))
  have HLT := Lib.hid hlt
  have HNE := Lib.hid hne
  have HBT := Lib.hid hbt
  have NRP := Lib.hid nrp
  have ATL := hp.le
  clear hr hp ht r0 hlt hne hbt nrp
  generalize blockS bs most s = sb at *
  generalize blockP bs most s = bp at *
  generalize takeP bs 2 s = t2 at *
  obtain ⟨l2, s2⟩ := t2
  dsimp only at hu HS HB HN
  generalize unle l2 = u at *
  have hu1 := hu.out
  go_enter Tryz.func38, Tryz.ntmps38
  go_wp2_with fail
  refine HN.out.mono ?_
  rintro e w1 ⟨rfl, hp1, hn1, r1⟩
  have HP1 := Lib.hid hp1
  have RR1 := Lib.hid (r1.heap RR.out (by have := NRP.out; simp; omega))
  have TT1 := Lib.hid (r1.heap TT.out (by have := HNE.out; simp; omega))
  have NB : Hid (w1.heap[w.heap.size]? = some (.cells #[.int .i64 u] 3 (0, 0))) := Lib.hid (by simpa using hn1)
  have HF1 : Hid (Fr (only [pb, w.heap.size]) w w1) := Lib.hid (R0.out.to.trans (r1.mono (fun k hk _ => by simp at hk; simp; omega)))
  clear hp1 hn1 r1 HN c0 d1 RR TT R0
  have FA := Lib.hid (fail_ok w1 pb bv bs s2 3 s.at_ HP1.out)
  have c0 : w1.cell? ⟨rb, 0, none⟩ = some (.pointer (some ⟨pb, 0, none⟩)) := cell_of_heap RR1.out rfl
  have d2 : w1.cell? ⟨pb, 2, none⟩ = some (.int .i64 s2.er) := cell_of_heap HP1.out.obj rfl
  have n0 : w1.cell? ⟨w.heap.size, 0, none⟩ = some (.int .i64 u) := cell_of_heap NB.out rfl
  by_cases hc : s2.er = 0
  rotate_left
  focus
    have e1 : (s2.er == 0) = false := by simpa using hc
    have WP : PlAt w1 pb bv bs sb := by rw [HS.out, if_neg (fun h => hc h.1)]; exact HP1.out
    clear hc
    go_upto_region 5 with fail
    have WR := RR1.out
    have WN := NB.out
    have WT := TT1.out
    have WF := HF1.out
    obtain ⟨WW, hWW⟩ : ∃ x, x = w1 := ⟨_, rfl⟩
    subst hWW
    clear e1 c0 d2 n0 FA HP1 RR1 TT1 NB HF1
  rotate_left
  focus
    have e1 : (s2.er == 0) = true := by simpa using hc
    by_cases hm2 : most < u
    rotate_left
    focus
      have hm3 : ¬ (most : Int) < u := by omega
      have WP : PlAt w1 pb bv bs sb := by rw [HS.out, if_neg (fun h => hm2 h.2)]; exact HP1.out
      clear hc hm2
      go_upto_region 5 with fail
      have WR := RR1.out
      have WN := NB.out
      have WT := TT1.out
      have WF := HF1.out
      obtain ⟨WW, hWW⟩ : ∃ x, x = w1 := ⟨_, rfl⟩
      subst hWW
      clear e1 c0 d2 n0 FA HP1 RR1 TT1 NB HF1
    rotate_left
    focus
      have hm3 : (most : Int) < u := by omega
      have HSB : Hid (sb = failP s2 3 s.at_) := Lib.hid (by rw [HS.out, if_pos ⟨hc, hm2⟩])
      clear hc hm2
      go_wp2_with fail
      refine FA.out.mono ?_
      rintro e WW ⟨rfl, hp2, r2⟩
      rw [← HSB.out] at hp2
      have WP := hp2
      have WR := r2.heap RR1.out (by have := NRP.out; simp; omega)
      have WN := r2.heap NB.out (by simp; omega)
      have WT := r2.heap TT1.out (by have := HNE.out; simp; omega)
      have WF : Fr (only [pb, w.heap.size]) w WW := HF1.out.trans (r2.mono (fun k hk _ => by simp at hk; simp; omega))
      clear e1 c0 d2 n0 FA HP1 RR1 TT1 NB HF1 hp2 r2
      go_upto_region 5 with fail
  all_goals
    have WZ := Lib.hid (takep_ok WW.drew pb bv bs sb u (WP.fn (Fr.refl no WW).drew) (by omega) hbl)
    rw [← HB.out] at WZ
    have x0 : WW.drew.cell? ⟨rb, 0, none⟩ = some (.pointer (some ⟨pb, 0, none⟩)) := cell_of_heap (w := WW.drew) WR rfl
    have x1 : WW.drew.cell? ⟨w.heap.size, 0, none⟩ = some (.int .i64 u) := cell_of_heap (w := WW.drew) WN rfl
    have HWT := Lib.hid WT
    have HWF := Lib.hid WF
    clear WP WR WN WT WF
    refine Lex.region [6, 8] [8, 1] (by kernel_rfl) (by kernel_rfl) ?_
    refine Lex.opens (fun w' => w'.cell? ⟨rb, 0, none⟩ = some (.pointer (some ⟨pb, 0, none⟩)) ∧ w'.cell? ⟨w.heap.size, 0, none⟩ = some (.int .i64 u)) (⟨x0, x1⟩) ?_
    repeat (first
      | (refine Lex.skips (by rfl) ?_; (try simp only [Act.put, List.setIfInBounds_toArray, List.set_cons_zero, List.set_cons_succ]))
      | (refine Lex.quiet (v := ?_) (by rfl) (by rfl) ?_ ?_; rotate_left; (focus (intro w' hS'; go_simp; try rfl)); (try simp only [Act.put, List.setIfInBounds_toArray, List.set_cons_zero, List.set_cons_succ])))
    refine Lex.loud (by rfl) (by rfl) ?_
    intro K' hK'
    go_simp
    refine WZ.out.mono ?_
    rintro e w5 ⟨v, rfl, hv, hn5, hp5, r5⟩
    obtain ⟨va, vc, rfl⟩ := owns_shape hv
    have y0 := r5.cell x0 (by have := NRP.out; simp; omega)
    have y1 := r5.cell x1 (by simp; omega)
    have HV := Lib.hid hv
    have HN5 := Lib.hid hn5
    have HP5 := Lib.hid hp5
    have R5 := Lib.hid r5
    have T5 := Lib.hid (r5.heap HWT.out (by have := HNE.out; simp; omega))
    have f5 : w5.frozen? ⟨tb, o, none⟩ = false := frozen_of_heap T5.out
    have t5 : w5.cell? ⟨tb, o, none⟩ = some (cs[o]'h0) := cell_of_heap T5.out (by simp [h0])
    clear hv hn5 hp5 r5
    refine hK' _ _ (⟨y0, y1⟩) ?_
    clear hK'
    try simp only [Act.put, List.setIfInBounds_toArray, List.set_cons_zero, List.set_cons_succ]
    clear y0 y1 x0 x1
    repeat (first
      | (refine Lex.skips (by rfl) ?_; (try simp only [Act.put, List.setIfInBounds_toArray, List.set_cons_zero, List.set_cons_succ]))
      | (refine Lex.quiet (v := ?_) (by rfl) (by rfl) ?_ ?_; rotate_left; (focus (intro w' hS'; go_simp; try rfl)); (try simp only [Act.put, List.setIfInBounds_toArray, List.set_cons_zero, List.set_cons_succ])))
    refine Lex.done ?_
    refine Lex.opens (fun _ => True) (trivial) ?_
    refine Lex.loud (by rfl) (by rfl) ?_
    intro K' hK'
    go_simp
    refine hK' _ _ (trivial) ?_
    clear hK'
    try simp only [Act.put, List.setIfInBounds_toArray, List.set_cons_zero, List.set_cons_succ]
    refine Lex.done ?_
    refine Lex.ends ?_
    go_wp2_with fail
    go_ret
    have r6 : Fr (only [tb]) w5 (w5.setCell ⟨tb, o, none⟩ (.slice va bp.1.length vc)) := (Fr.refl _ w5).setCell _ _ (.inl (by simp))
    have hdb := (HWF.out).size
    refine ⟨rfl, HP5.out.fr r6 (by have := HNE.out; simp; omega) (fun k hk => by have := (HBT.out k hk).1; simpa using this), ⟨_, heap_setCell T5.out, ?_, ?_⟩, ?_⟩
    · refine owns_base (owns_fr HV.out r6 (fun k hk => ?_)) (fun k hk => ?_)
      · have := (HV.out.lt k hk).1
        simp only [only_iff, List.mem_singleton]
        have h7 : w.heap.size ≤ WW.drew.heap.size := hdb
        omega
      · have := (HV.out.lt k hk).1
        have h7 : w.heap.size ≤ WW.drew.heap.size := hdb
        omega
    · refine HN5.out.frx r6 (fun g hg => (HV.out.lt g hg).2) (fun k hk => ?_)
      have := (HV.out.lt k hk).1
      simp only [only_iff, List.mem_singleton]
      have h7 : w.heap.size ≤ WW.drew.heap.size := hdb
      omega
    · have q1 : Fr (only [pb, tb]) w WW := (Fr.refl _ w).trans' HWF.out (fun k hk hn => by simp at hk hn; omega)
      have q2 : Fr (only [pb, tb]) WW w5 := ((Fr.refl no WW).drew.to).trans (R5.out.mono (fun k hk _ => by simp at hk; simp [hk]))
      exact (q1.trans q2).trans (r6.mono (fun k hk _ => by simp at hk; simp [hk]))

end Go.Proofs.YtdngflhfhmnipaaGreat

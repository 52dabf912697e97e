/- twinshaftref08's reader: function. -/
import Derived.Test.YtdngflhfhmnipaaGreatN7
import Derived.Test.YtdngflhfhmnipaaGreatN4
set_option linter.unusedSimpArgs false
set_option linter.unusedVariables false
set_option linter.unusedSectionVars false
set_option linter.unnecessarySimpa false
namespace Go.Proofs.YtdngflhfhmnipaaGreat
open Go.RowKit

attribute [local go_sem] Program.isFuncB Program.isSliceB

variable {w w' w'' w0 : World}

/-- where function stands: its result's variable, its own -/
structure FnB (w wr : World) (pb : Nat) (bv : Value) (bs : List Nat) (s : Pl) (cs : Array Value) : Prop where
  res : wr.heap[w.heap.size]? = some (.cells #[.int .i64 0, .int .i64 0, .int .i64 0, .slice none 0 0] 44 (0, 0))
  fn : wr.heap[w.heap.size + 1]? = some (.cells cs 44 (0, 0))
  rl : RlAt wr pb bv bs s
  fr : Fr (only [pb]) w wr
  lo : pb < w.heap.size
  old : ∀ k, bv.ownBlock = some k → k < w.heap.size
section
variable {wr wr' : World} {pb : Nat} {bv : Value} {bs : List Nat} {s s' : Pl} {cs : Array Value}
theorem FnB.to (h : FnB w wr pb bv bs s cs) (r : Fr (only [pb]) wr wr') (hp : RlAt wr' pb bv bs s') : FnB w wr' pb bv bs s' cs :=
  ⟨r.heap h.res (by have := h.lo; simp; omega), r.heap h.fn (by have := h.lo; simp; omega), hp, h.fr.trans r, h.lo, h.old⟩
theorem FnB.same (h : FnB w wr pb bv bs s cs) (r : Fr no wr wr') : FnB w wr' pb bv bs s cs := h.to (r.to) (h.rl.fn r)
theorem FnB.set (h : FnB w wr pb bv bs s cs) (o : Nat) (v : Value) : FnB w (wr.setCell ⟨w.heap.size + 1, o, none⟩ v) pb bv bs s (cs.setIfInBounds o v) := by
  have r : Fr (only [w.heap.size + 1]) wr (wr.setCell ⟨w.heap.size + 1, o, none⟩ v) := (Fr.refl _ wr).setCell _ _ (.inl (by simp))
  have lo := h.lo
  exact ⟨r.heap h.res (by simp), heap_setCell h.fn, h.rl.fr r (by simp; omega) (fun k hk => by have := h.old k hk; simp; omega), h.fr.trans' r (fun k hk _ => by simp at hk; omega), h.lo, h.old⟩
end
theorem load_func (w : World) (b : Nat) (a0 a1 a2 a3 : Value) (h : w.heap[b]? = some (.cells #[a0, a1, a2, a3] 44 (0, 0))) : (loadVar 44 ⟨b, 0, none⟩).run Tryz.prog w = .ok (.agg #[a0, a1, a2, a3]) w :=
  run_loadVar_row w b _ _ #[a0, a1, a2, a3] _ _ h Tryz.underlying44 rfl (by rw [Tryz.infoFunc]; rfl)

set_option maxRecDepth 100000 in
set_option maxHeartbeats 16000000 in
theorem reffunction_ok (w : World) (pb : Nat) (bv : Value) (bs : List Nat) (s : Pl) (hp : RlAt w pb bv bs s) (hlt : ∀ b ∈ bs, b < 256) (hbl : bs.length ≤ 100000) (hbt : ∀ k, bv.ownBlock = some k → k < w.heap.size) :
    Calls Tryz.prog 46 #[.pointer (some ⟨pb, 0, none⟩)] w fun e w' => ∃ ca cc, e = .returned (.agg #[.int .i64 (unle (fnA bs s).1 : Nat), .int .i64 (unle (fnBb bs s).1 : Nat), .int .i64 (unle (fnC bs s).1 : Nat), .slice ca (fnSp bs s).is.length cc]) ∧ CodeOwn w' w.heap.size (.slice ca (fnSp bs s).is.length cc) (fnSp bs s).is ∧ RlAt w' pb bv bs (functionP bs s).2 ∧ Fr (only [pb]) w w' := by
  have hpl := (Array.getElem?_eq_some_iff.1 hp.obj).1
  have LA : Hid ((fnA bs s).2.at_ ≤ bs.length) := Lib.hid (takeP_le hp.le)
  have LB : Hid ((fnBb bs s).2.at_ ≤ bs.length) := Lib.hid (takeP_le LA.out)
  have LC : Hid ((fnC bs s).2.at_ ≤ bs.length) := Lib.hid (takeP_le LB.out)
  have LD : Hid ((fnD bs s).1.length ≤ 4096 ∧ (∀ b ∈ (fnD bs s).1, b < 256)) := Lib.hid ⟨blockP_len bs 4096 _ LC.out, blockP_lt hlt _ _⟩
  have FP : Hid ((functionP bs s).2 = if (fnSp bs s).er ≠ 0 then failP (fnD bs s).2 10 ((fnD bs s).2.at_ - (fnD bs s).1.length : Int) else (fnD bs s).2) := Lib.hid (by
    unfold functionP
    split
    · rename_i h
      split
      · unfold failP; rw [if_neg h]
      · rfl
    · rfl)
  have SPD : Hid (fnSp bs s = splitR (fnD bs s).1 ((fnD bs s).1.length + 1) [] [] 0) := Lib.hid rfl
  have EA : Hid (takeP bs 1 s = fnA bs s) := Lib.hid rfl
  have EB : Hid (takeP bs 1 (fnA bs s).2 = fnBb bs s) := Lib.hid rfl
  have EC : Hid (takeP bs 2 (fnBb bs s).2 = fnC bs s) := Lib.hid rfl
  have ED : Hid (blockP bs 4096 (fnC bs s).2 = fnD bs s) := Lib.hid rfl
  have r1 := ((Fr.refl no w).alloc (.cells zeroFn 44)).alloc (.cells zeroFn 44)
  have B1 : Hid (FnB w ((w.alloc (.cells zeroFn 44)).alloc (.cells zeroFn 44)) pb bv bs s zeroFn) := Lib.hid ⟨heap_new2 w _ _, heap_new2' w _ _, hp.fn r1, r1.to, hpl, hbt⟩
  have HLT := Lib.hid hlt
  clear hp hlt hbt r1
  unfold zeroFn at B1
  generalize fnSp bs s = sp at *
  generalize (functionP bs s).2 = fp at *
  generalize fnA bs s = ta at *
  generalize fnBb bs s = tb at *
  generalize fnC bs s = tc at *
  generalize fnD bs s = td at *
  go_enter Tryz.func46, Tryz.ntmps46
  go_wp2_with fail
  have C := refnum_ok _ pb 1 bv bs s B1.out.rl (.inl rfl) HLT.out hbl
  rw [EA.out] at C
  refine C.mono ?_
  clear C
  rintro e w2 ⟨rfl, hp, r⟩
  have B2 := Lib.hid (B1.out.to r hp)
  clear hp r B1
  generalize hn1 : unle ta.1 = n1 at *
  have N1 := Lib.hid hn1
  clear hn1
  have g0 := frozen_of_heap (o := 0) B2.out.fn
  obtain ⟨c0, c1, c2, c3⟩ := cells4 B2.out.fn
  go_upto_region 3 with fail
  have B3 := Lib.hid (B2.out.set 0 (.int .i64 n1))
  generalize w2.setCell ⟨w.heap.size + 1, 0, none⟩ (.int .i64 n1) = w3 at *
  clear B2 g0 c0 c1 c2 c3
  go_wp2_with fail
  have C := refnum_ok _ pb 1 bv bs _ B3.out.rl (.inl rfl) HLT.out hbl
  rw [EB.out] at C
  refine C.mono ?_
  clear C
  rintro e w4 ⟨rfl, hp, r⟩
  have B4 := Lib.hid (B3.out.to r hp)
  clear hp r B3
  generalize hn2 : unle tb.1 = n2 at *
  have N2 := Lib.hid hn2
  clear hn2
  simp only [List.setIfInBounds_toArray, List.set_cons_zero, List.set_cons_succ] at B4
  have g0 := frozen_of_heap (o := 1) B4.out.fn
  obtain ⟨c0, c1, c2, c3⟩ := cells4 B4.out.fn
  go_upto_region 4 with fail
  have B5 := Lib.hid (B4.out.set 1 (.int .i64 n2))
  generalize w4.setCell ⟨w.heap.size + 1, 1, none⟩ (.int .i64 n2) = w5 at *
  clear B4 g0 c0 c1 c2 c3
  go_wp2_with fail
  have C := refnum_ok _ pb 2 bv bs _ B5.out.rl (.inr rfl) HLT.out hbl
  rw [EC.out] at C
  refine C.mono ?_
  clear C
  rintro e w6 ⟨rfl, hp, r⟩
  have B6 := Lib.hid (B5.out.to r hp)
  clear hp r B5
  generalize hn3 : unle tc.1 = n3 at *
  have N3 := Lib.hid hn3
  clear hn3
  simp only [List.setIfInBounds_toArray, List.set_cons_zero, List.set_cons_succ] at B6
  have g0 := frozen_of_heap (o := 2) B6.out.fn
  obtain ⟨c0, c1, c2, c3⟩ := cells4 B6.out.fn
  go_upto_region 5 with fail
  have B7 := Lib.hid (B6.out.set 2 (.int .i64 n3))
  generalize w6.setCell ⟨w.heap.size + 1, 2, none⟩ (.int .i64 n3) = w7 at *
  clear B6 g0 c0 c1 c2 c3
  go_wp2_with fail
  have C := refblock_ok _ pb 4096 bv bs _ B7.out.rl HLT.out hbl (fun k hk => Nat.lt_of_lt_of_le (B7.out.old k hk) B7.out.fr.size)
  rw [ED.out] at C
  refine C.mono ?_
  clear C
  rintro e w8 ⟨v, rfl, hv, hp, r⟩
  obtain ⟨va, vc, rfl⟩ := owns_shape hv
  have B8 := Lib.hid (B7.out.to r hp)
  have HV := Lib.hid hv
  simp only [List.setIfInBounds_toArray, List.set_cons_zero, List.set_cons_succ] at B8
  clear hp r hv B7
  have LDL := LD.out.1
  have SO := refsplit_ok w8 _ td.1 ⟨owns_reads HV.out, LD.out.2, by omega, fun k hk => (HV.out.lt k hk).2⟩ (by omega)
  rw [← SPD.out] at SO
  go_wp2_with fail
  refine SO.mono ?_
  clear SO
  rintro e w9 ⟨u, v, l, rfl, h2, h3, h4, -, -, -, -, r⟩
  have HS8 : w.heap.size ≤ w8.heap.size := B8.out.fr.size
  have CO9 : CodeOwn w9 w.heap.size u sp.is := ⟨l, h2, owns_base h3 (fun k hk => by have := (h3.lt k hk).1; omega), fun p hp => owns_base (h4 p hp) (fun k hk => by have := ((h4 p hp).lt k hk).1; omega)⟩
  obtain ⟨ua, uc, rfl, -⟩ := CO9.read
  have r10 := (Fr.refl no w9).alloc (.cells #[.int .i64 sp.er, .int .i64 sp.fa] 38)
  have B10 := Lib.hid ((B8.out.same r).same r10)
  have C10 := Lib.hid (CO9.fn r10)
  clear r r10 h2 h3 h4 CO9 B8 HS8 HV
  by_cases her : sp.er = 0
  · have e1 : (sp.er != 0) = false := by simpa using her
    have FQ : Hid (fp = td.2) := Lib.hid (by rw [FP.out, if_neg (by simpa using her)])
    clear her FP SPD
    go_upto_region 9 with fail
    generalize w9.alloc (.cells #[.int .i64 sp.er, .int .i64 sp.fa] 38) = w10 at *
    have g3 := frozen_of_heap (o := 3) B10.out.fn
    obtain ⟨c0, c1, c2, c3⟩ := cells4 B10.out.fn
    go_upto_region 10 with fail
    have rz : Fr (only [w.heap.size + 1]) w10 (w10.setCell ⟨w.heap.size + 1, 3, none⟩ (.slice ua sp.is.length uc)) := (Fr.refl _ w10).setCell _ _ (.inl (by simp))
    have B12 := Lib.hid (B10.out.set 3 (.slice ua sp.is.length uc))
    have C12 := Lib.hid (C10.out.odd (ts := [47, 3]) rz (fun k hk => .inr (by simp at hk; subst hk; exact ⟨_, _, B10.out.fn, by decide⟩)) (by simp) (by simp))
    clear rz g3 c0 c1 c2 c3 B10 C10
    generalize w10.setCell ⟨w.heap.size + 1, 3, none⟩ (.slice ua sp.is.length uc) = wz at *
    simp only [List.setIfInBounds_toArray, List.set_cons_zero, List.set_cons_succ] at B12
    obtain ⟨c0, c1, c2, c3⟩ := cells4 B12.out.fn
    obtain ⟨d0, d1, d2, d3⟩ := cells4 B12.out.res
    have k0 := frozen_of_heap (o := 0) B12.out.res
    have k1 := frozen_of_heap (o := 1) B12.out.res
    have k2 := frozen_of_heap (o := 2) B12.out.res
    have k3 := frozen_of_heap (o := 3) B12.out.res
    go_wp2_with fail
    have hh := heap_setCell (o := 3) (v := .slice ua sp.is.length uc) (heap_setCell (o := 2) (v := .int .i64 n3) (heap_setCell (o := 1) (v := .int .i64 n2) (heap_setCell (o := 0) (v := .int .i64 n1) B12.out.res)))
    have rr : Fr (only [w.heap.size]) wz ((((wz.setCell ⟨w.heap.size, 0, none⟩ (.int .i64 n1)).setCell ⟨w.heap.size, 1, none⟩ (.int .i64 n2)).setCell ⟨w.heap.size, 2, none⟩ (.int .i64 n3)).setCell ⟨w.heap.size, 3, none⟩ (.slice ua sp.is.length uc)) := ((((Fr.refl _ wz).setCell _ _ (.inl (by simp))).setCell _ _ (.inl (by simp))).setCell _ _ (.inl (by simp))).setCell _ _ (.inl (by simp))
    refine bodyPost_ret (results_one rfl rfl (load_func _ _ (.int .i64 n1) (.int .i64 n2) (.int .i64 n3) (.slice ua sp.is.length uc) (by simpa using hh))) rfl ?_
    have lo := B12.out.lo
    exact ⟨ua, uc, by rw [N1.out, N2.out, N3.out], C12.out.odd (ts := [47, 3]) rr (fun k hk => .inr (by simp at hk; subst hk; exact ⟨_, _, B12.out.res, by decide⟩)) (by simp) (by simp), by rw [FQ.out]; exact B12.out.rl.fr rr (by simp; omega) (fun k hk => by have := B12.out.old k hk; simp; omega), B12.out.fr.trans' rr (fun k hk _ => by simp at hk; omega)⟩
  · have e1 : (sp.er != 0) = true := by simpa using her
    have FQ : Hid (fp = failP td.2 10 (td.2.at_ - td.1.length : Int)) := Lib.hid (by rw [FP.out, if_pos her])
    clear her FP SPD
    obtain ⟨-, p1, -, -⟩ := cells4 B10.out.rl.obj
    have hat := B10.out.rl.le
    have FA := Lib.hid (reffail_ok _ pb bv bs td.2 10 (td.2.at_ - td.1.length : Int) B10.out.rl)
    obtain ⟨tdl, tds⟩ := td
    obtain ⟨ta_, te_, tf_⟩ := tds
    dsimp only at p1 hat FA FQ LDL B10
    go_wp2_with fail
    refine FA.out.mono ?_
    rintro e w11 ⟨rfl, hp, r⟩
    have B11 := Lib.hid (B10.out.to r hp)
    have C11 := Lib.hid (C10.out.odd (ts := [47, 3]) r (fun k hk => .inr (by simp at hk; subst hk; exact ⟨_, _, B10.out.rl.obj, by decide⟩)) (by simp) (by simp))
    clear hp r B10 C10 FA p1
    have g3 := frozen_of_heap (o := 3) B11.out.fn
    obtain ⟨c0, c1, c2, c3⟩ := cells4 B11.out.fn
    go_upto_region 10 with fail
    have rz : Fr (only [w.heap.size + 1]) w11 (w11.setCell ⟨w.heap.size + 1, 3, none⟩ (.slice ua sp.is.length uc)) := (Fr.refl _ w11).setCell _ _ (.inl (by simp))
    have B12 := Lib.hid (B11.out.set 3 (.slice ua sp.is.length uc))
    have C12 := Lib.hid (C11.out.odd (ts := [47, 3]) rz (fun k hk => .inr (by simp at hk; subst hk; exact ⟨_, _, B11.out.fn, by decide⟩)) (by simp) (by simp))
    clear rz g3 c0 c1 c2 c3 B11 C11
    generalize w11.setCell ⟨w.heap.size + 1, 3, none⟩ (.slice ua sp.is.length uc) = wz at *
    simp only [List.setIfInBounds_toArray, List.set_cons_zero, List.set_cons_succ] at B12
    obtain ⟨c0, c1, c2, c3⟩ := cells4 B12.out.fn
    obtain ⟨d0, d1, d2, d3⟩ := cells4 B12.out.res
    have k0 := frozen_of_heap (o := 0) B12.out.res
    have k1 := frozen_of_heap (o := 1) B12.out.res
    have k2 := frozen_of_heap (o := 2) B12.out.res
    have k3 := frozen_of_heap (o := 3) B12.out.res
    go_wp2_with fail
    have hh := heap_setCell (o := 3) (v := .slice ua sp.is.length uc) (heap_setCell (o := 2) (v := .int .i64 n3) (heap_setCell (o := 1) (v := .int .i64 n2) (heap_setCell (o := 0) (v := .int .i64 n1) B12.out.res)))
    have rr : Fr (only [w.heap.size]) wz ((((wz.setCell ⟨w.heap.size, 0, none⟩ (.int .i64 n1)).setCell ⟨w.heap.size, 1, none⟩ (.int .i64 n2)).setCell ⟨w.heap.size, 2, none⟩ (.int .i64 n3)).setCell ⟨w.heap.size, 3, none⟩ (.slice ua sp.is.length uc)) := ((((Fr.refl _ wz).setCell _ _ (.inl (by simp))).setCell _ _ (.inl (by simp))).setCell _ _ (.inl (by simp))).setCell _ _ (.inl (by simp))
    refine bodyPost_ret (results_one rfl rfl (load_func _ _ (.int .i64 n1) (.int .i64 n2) (.int .i64 n3) (.slice ua sp.is.length uc) (by simpa using hh))) rfl ?_
    have lo := B12.out.lo
    exact ⟨ua, uc, by rw [N1.out, N2.out, N3.out], C12.out.odd (ts := [47, 3]) rr (fun k hk => .inr (by simp at hk; subst hk; exact ⟨_, _, B12.out.res, by decide⟩)) (by simp) (by simp), by rw [FQ.out]; exact B12.out.rl.fr rr (by simp; omega) (fun k hk => by have := B12.out.old k hk; simp; omega), B12.out.fr.trans' rr (fun k hk _ => by simp at hk; omega)⟩

end Go.Proofs.YtdngflhfhmnipaaGreat

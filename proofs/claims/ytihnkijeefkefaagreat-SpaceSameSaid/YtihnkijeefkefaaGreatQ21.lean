import Derived.Test.YtihnkijeefkefaaGreatQ20
set_option linter.unusedSimpArgs false
set_option linter.unusedVariables false
set_option linter.unusedSectionVars false
set_option linter.unnecessarySimpa false
set_option maxRecDepth 100000
/- The program's copy of a module, in depth. -/
namespace Go.Proofs.YtihnkijeefkefaaGreat
open Go.RowKit

attribute [local go_sem] Program.isFuncB Program.isSliceB

variable {w w' w'' w0 : World}

theorem CodeOwn.odd2 {S : Nat → Prop} {base : Nat} {v : Value} {is : List Ix} {g : Nat} {cs : Array Value} (h : CodeOwn w base v is) (r : Fr S w w') (hS : ∀ k, S k → k = g) (hg : w.heap[g]? = some (.cells cs 41 (0, 0))) : CodeOwn w' base v is :=
  h.odd (ts := [112, 3]) r (fun k hk => .inr (by rw [hS k hk]; exact ⟨_, _, hg, by decide⟩)) (by simp) (by simp)
theorem row_cells {base e z g n c : Nat} {xs : List Value} (h : w.ownsRow base e z (.slice (some ⟨g, 0, none⟩) n c) n xs) : ∃ cur : Array Value, w.heap[g]? = some (.cells cur e (0, 0)) ∧ xs.length ≤ cur.size := by
  rcases h.2 with ⟨hh, -⟩ | ⟨g', cap, cur, hh, hb, hg, h1, h2, h3, h4⟩
  · cases hh
  · injection hh with e1 e2 e3
    injection e1 with e1
    injection e1 with e1 e4 e5
    subst e1
    refine ⟨cur, hg, ?_⟩
    have := congrArg List.length h4
    rw [List.length_take] at this
    simp at this
    omega

/-- how far the copying has come: the functions' row, in which the first k have code of their own -/
structure CopyAt (w wr : World) (m : Mx) (l0 : List FxV) (g yc : Nat) (l : List FxV) (k : Nat) : Prop where
  row : wr.ownsRow w.heap.size 41 4 (.slice (some ⟨g, 0, none⟩) l.length yc) l.length (fCells l)
  names : l.map Prod.fst = m.f
  done : ∀ j (h : j < l.length), j < k → CodeOwn wr w.heap.size l[j].val l[j].1.c
  rest : ∀ j (h : j < l.length), k ≤ j → l0[j]? = some l[j]
  fr : Fr no w wr
structure InnerAt (w wz w4 wi : World) (ga : Option Addr) (gc : Nat) (il il' : List (Ix × Value)) (j : Nat) : Prop where
  row : wi.ownsRow wz.heap.size 112 6 (.slice ga il'.length gc) il'.length (cellsOf il')
  names : il'.map Prod.fst = il.map Prod.fst
  done : ∀ i (h : i < il'.length), i < j → wi.ownsRow w.heap.size 3 1 il'[i].2 il'[i].1.l.length (ints il'[i].1.l)
  rest : ∀ i (h : i < il'.length), j ≤ i → il[i]? = some il'[i]
  fr : Fr (fun k => (Value.slice ga il.length gc).ownBlock = some k) w4 wi
theorem InnerAt.step {wz w4 wi w5 : World} {g2 gc j : Nat} {il il' : List (Ix × Value)} {q : Ix × Value} {za : Option Addr} {zc : Nat} {cu2 : Array Value} (h : InnerAt w wz w4 wi (some ⟨g2, 0, none⟩) gc il il' j) (hj : j < il'.length) (hq : q = il'[j]) (r : Fr no wi w5)
    (hg : w5.heap[g2]? = some (.cells cu2 112 (0, 0))) (hzv : w5.ownsRow wi.drew.heap.size 3 1 (.slice za q.1.l.length zc) q.1.l.length (ints q.1.l)) (hb : w.heap.size ≤ wi.drew.heap.size) :
    InnerAt w wz w4 (w5.setCell ⟨g2, j * 6 + 5, none⟩ (.slice za q.1.l.length zc)) (some ⟨g2, 0, none⟩) gc il (il'.set j (q.1, .slice za q.1.l.length zc)) (j + 1) := by
  have rs := (Fr.refl (only [g2]) w5).setCell ⟨g2, j * 6 + 5, none⟩ (.slice za q.1.l.length zc) (.inl (by simp))
  have hne : ∀ {base n z : Nat} {u : Value} {xs : List Value}, w5.ownsRow base 3 z u n xs → ∀ i, u.ownBlock = some i → ¬ only [g2] i := fun ho i hi e => by
    simp at e; subst e; exact row_block_ne ho hg (by decide) hi
  refine ⟨?_, ?_, fun i hi hij => ?_, fun i hi hij => ?_, ?_⟩
  · rw [cellsOf_set il' j _ hj (by rw [hq]), List.length_set]
    exact ((owns_fr h.row r (by simp)).stored _ _).1
  · rw [map_set_same hj (by rw [hq]), h.names]
  · have hi' : i < il'.length := by simpa using hi
    by_cases e : i = j
    · subst e
      simp only [List.getElem_set_self]
      exact owns_fr (owns_base hzv (fun k hk => Nat.le_trans hb (hzv.lt k hk).1)) rs (hne hzv)
    · have hd := owns_fr (h.done i hi' (by omega)) r (by simp)
      rw [List.getElem_set_ne (by omega)]
      exact owns_fr hd rs (hne hd)
  · have hi' : i < il'.length := by simpa using hi
    rw [List.getElem_set_ne (by omega)]
    exact h.rest i hi' (by omega)
  · have e1 : ∀ n, (fun k => (Value.slice (some ⟨g2, 0, none⟩) n gc).ownBlock = some k) = fun k => g2 = k := fun n => by funext k; simp [Value.ownBlock]
    have h1 := h.fr
    rw [e1] at h1 ⊢
    exact h1.trans (r.to.trans (rs.mono (fun k hk _ => by simp at hk; exact hk.symm)))
theorem CopyAt.step {wr wi : World} {m : Mx} {l0 l : List FxV} {g yc k gc : Nat} {p : FxV} {ga : Option Addr} {cur : Array Value} (h : CopyAt w wr m l0 g yc l k) (hk : k < l.length) (hp : p = l[k]) (hg : wr.heap[g]? = some (.cells cur 41 (0, 0))) (r : Fr (only [g]) wr wi) (rw' : Fr no w wi)
    (hc : CodeOwn wi w.heap.size (.slice ga p.1.c.length gc) p.1.c) (hrow : wi.ownsRow w.heap.size 41 4 (.slice (some ⟨g, 0, none⟩) (l.set k (p.1, ga, gc)).length yc) (l.set k (p.1, ga, gc)).length (fCells (l.set k (p.1, ga, gc)))) :
    CopyAt w wi m l0 g yc (l.set k (p.1, ga, gc)) (k + 1) := by
  refine ⟨hrow, by rw [map_set_sameF hk (by rw [hp]), h.names], fun i hi hik => ?_, fun i hi hik => ?_, rw'⟩
  · have hi' : i < l.length := by simpa using hi
    by_cases e : i = k
    · subst e
      simp only [List.getElem_set_self]
      exact hc
    · rw [List.getElem_set_ne (by omega)]
      exact (h.done i hi' (by omega)).odd2 r (fun q hq => by simpa using hq) hg
  · have hi' : i < l.length := by simpa using hi
    rw [List.getElem_set_ne (by omega)]
    exact h.rest i hi' (by omega)
set_option maxHeartbeats 8000000 in
theorem copied_ok (w : World) (m : Mx) (da : Option Addr) (dc : Nat) (fa : Option Addr) (fc : Nat) (hm : ModRd w m da dc fa fc) (hs : m.Small) (h1 : 1 ≤ m.f.length) :
    Calls Tryz.prog 54 #[.agg #[.slice da m.d.length dc, .slice fa m.f.length fc]] w fun e w' => ∃ xa xc ya yc, e = .returned (.agg #[.slice xa m.d.length xc, .slice ya m.f.length yc]) ∧ ModOwn w' w.heap.size m xa xc ya yc ∧ Fr no w w' := by
  obtain ⟨hd, l0, hl0, hrow, hcode⟩ := hm
  have hlen : l0.length = m.f.length := by rw [← hl0, List.length_map]
  have HSM := Lib.hid hs
  have hfl : m.f.length ≤ 1000 := hs.fns
  have hdl : m.d.length ≤ 1000000 := by have := hs.data; omega
  have r1 := (Fr.refl no w).alloc (.cells #[.slice da m.d.length dc, .slice fa m.f.length fc] 25)
  have HM1 := Lib.hid (heap_new w (.cells #[.slice da m.d.length dc, .slice fa m.f.length fc] 25))
  have sz1 : (w.alloc (.cells #[.slice da m.d.length dc, .slice fa m.f.length fc] 25)).heap.size = w.heap.size + 1 := by simp
  have HD := Lib.hid hd
  have HRW := Lib.hid hrow
  have HCD := Lib.hid hcode
  have HL0 := Lib.hid hl0
  have HLEN := Lib.hid hlen
  clear hd hrow hcode hl0 hs
  go_enter Tryz.func54, Tryz.ntmps54
  go_upto_region 1 with (fail)
  generalize w.alloc (.cells #[.slice da m.d.length dc, .slice fa m.f.length fc] 25) = w1 at *
  have r2 := r1.alloc (.cells #[.slice none 0 0, .slice none 0 0] 25)
  have HZ2 := Lib.hid (heap_new w1 (.cells #[.slice none 0 0, .slice none 0 0] 25))
  have HM2 := Lib.hid (((Fr.refl no w1).alloc (.cells #[.slice none 0 0, .slice none 0 0] 25)).heap HM1.out (by simp))
  have sz2 : (w1.alloc (.cells #[.slice none 0 0, .slice none 0 0] 25)).heap.size = w.heap.size + 2 := by simp; omega
  rw [sz1] at HZ2
  generalize w1.alloc (.cells #[.slice none 0 0, .slice none 0 0] 25) = w2 at *
  have R2 := Lib.hid r2.drew
  have HM3 : Hid (w2.drew.heap[w.heap.size]? = some (.cells #[.slice da m.d.length dc, .slice fa m.f.length fc] 25 (0, 0))) := Lib.hid HM2.out
  have HZ3 : Hid (w2.drew.heap[w.heap.size + 1]? = some (.cells #[.slice none 0 0, .slice none 0 0] 25 (0, 0))) := Lib.hid HZ2.out
  have SZ : Hid (w2.drew.heap.size = w.heap.size + 2) := Lib.hid sz2
  have CM : Hid (∀ w' : World, w'.heap[w.heap.size]? = some (.cells #[.slice da m.d.length dc, .slice fa m.f.length fc] 25 (0, 0)) → (fun w' : World => w'.cell? ⟨w.heap.size, 0, none⟩ = some (.slice da m.d.length dc) ∧ w'.cell? ⟨w.heap.size, 1, none⟩ = some (.slice fa m.f.length fc)) w') := Lib.hid (fun w' h => ⟨cell_of_heap h rfl, cell_of_heap h rfl⟩)
  clear r1 r2 HM1 HM2 HZ2 sz1 sz2
  refine Lex.region [2, 5, 7, 9] [5, 2, 1, 2] (by kernel_rfl) (by kernel_rfl) ?_
  refine Lex.opens (fun w' => w'.cell? ⟨w.heap.size, 0, none⟩ = some (.slice da m.d.length dc) ∧ w'.cell? ⟨w.heap.size, 1, none⟩ = some (.slice fa m.f.length fc)) ((CM.out _ HM3.out)) ?_
  repeat (first
    | (refine Lex.skips (by rfl) ?_; (try simp only [Act.put, List.setIfInBounds_toArray, List.set_cons_zero, List.set_cons_succ]))
    | (refine Lex.quiet (v := ?_) (by rfl) (by rfl) ?_ ?_; rotate_left; (focus (intro w' hS'; go_simp; try rfl)); (try simp only [Act.put, List.setIfInBounds_toArray, List.set_cons_zero, List.set_cons_succ])))
  refine Lex.loud (by rfl) (by rfl) ?_
  intro K' hK'
  go_simp
  refine (clone_bytes _ _ m.d (HD.out.fr R2.out (by simp)) (by omega)).mono ?_
  rintro e w4 ⟨x, rfl, hx, r4⟩
  obtain ⟨xa, xc, rfl⟩ := owns_shape hx
  have HX4 := Lib.hid hx
  have R4 := Lib.hid (R2.out.trans r4)
  have HM4 := Lib.hid (r4.heap HM3.out (by simp))
  have HZ4 := Lib.hid (r4.heap HZ3.out (by simp))
  have SZ4 : Hid (w.heap.size + 2 ≤ w4.heap.size) := Lib.hid (by have := r4.size; rw [SZ.out] at this; exact this)
  clear hx r4
  refine hK' _ _ ((CM.out _ HM4.out)) ?_
  clear hK'
  try simp only [Act.put, List.setIfInBounds_toArray, List.set_cons_zero, List.set_cons_succ]
  repeat (first
    | (refine Lex.skips (by rfl) ?_; (try simp only [Act.put, List.setIfInBounds_toArray, List.set_cons_zero, List.set_cons_succ]))
    | (refine Lex.quiet (v := ?_) (by rfl) (by rfl) ?_ ?_; rotate_left; (focus (intro w' hS'; go_simp; try rfl)); (try simp only [Act.put, List.setIfInBounds_toArray, List.set_cons_zero, List.set_cons_succ])))
  refine Lex.done ?_
  refine Lex.opens (fun _ => True) (trivial) ?_
  refine Lex.loud (by rfl) (by rfl) ?_
  intro K' hK'
  go_simp
  refine (clone_fns _ _ m.f.length (fCells l0) (by have := HRW.out.fr R4.out (by simp); rw [HLEN.out] at this; exact this) (fCells_one l0) (by omega)).mono ?_
  rintro e w5 ⟨y, rfl, hy, r5⟩
  obtain ⟨ya, yc, rfl⟩ := owns_shape hy
  have HY5 := Lib.hid hy
  have R5 := Lib.hid (R4.out.trans r5)
  have HX5 := Lib.hid (owns_fr HX4.out r5 (by simp))
  have hm5 := r5.heap HM4.out (by simp)
  have HM5 := Lib.hid hm5
  have HZ5 := Lib.hid (r5.heap HZ4.out (by simp))
  have SZ5 : Hid (w.heap.size + 2 ≤ w5.heap.size) := Lib.hid (by have := r5.size; have := SZ4.out; omega)
  have m0 := cell_of_heap (o := 0) hm5 rfl
  have m1 := cell_of_heap (o := 1) hm5 rfl
  have n0 := frozen_of_heap (o := 0) hm5
  have n1 := frozen_of_heap (o := 1) hm5
  clear hy r5 hm5
  refine hK' _ _ (trivial) ?_
  clear hK'
  try simp only [Act.put, List.setIfInBounds_toArray, List.set_cons_zero, List.set_cons_succ]
  repeat (first
    | (refine Lex.skips (by rfl) ?_; (try simp only [Act.put, List.setIfInBounds_toArray, List.set_cons_zero, List.set_cons_succ]))
    | (refine Lex.quiet (v := ?_) (by rfl) (by rfl) ?_ ?_; rotate_left; (focus (intro w' hS'; go_simp; try rfl)); (try simp only [Act.put, List.setIfInBounds_toArray, List.set_cons_zero, List.set_cons_succ])))
  refine Lex.done ?_
  refine Lex.opens (fun _ => True) (trivial) ?_
  repeat (first
    | (refine Lex.skips (by rfl) ?_; (try simp only [Act.put, List.setIfInBounds_toArray, List.set_cons_zero, List.set_cons_succ]))
    | (refine Lex.quiet (v := ?_) (by rfl) (by rfl) ?_ ?_; rotate_left; (focus (intro w' hS'; go_simp; try rfl)); (try simp only [Act.put, List.setIfInBounds_toArray, List.set_cons_zero, List.set_cons_succ])))
  refine Lex.loud (by rfl) (by rfl) ?_
  intro K' hK'
  go_simp
  refine hK' _ _ (trivial) ?_
  clear hK'
  try simp only [Act.put, List.setIfInBounds_toArray, List.set_cons_zero, List.set_cons_succ]
  refine Lex.done ?_
  refine Lex.opens (fun _ => True) (trivial) ?_
  repeat (first
    | (refine Lex.skips (by rfl) ?_; (try simp only [Act.put, List.setIfInBounds_toArray, List.set_cons_zero, List.set_cons_succ]))
    | (refine Lex.quiet (v := ?_) (by rfl) (by rfl) ?_ ?_; rotate_left; (focus (intro w' hS'; go_simp; try rfl)); (try simp only [Act.put, List.setIfInBounds_toArray, List.set_cons_zero, List.set_cons_succ])))
  refine Lex.loud (by rfl) (by rfl) ?_
  intro K' hK'
  go_simp
  refine hK' _ _ (trivial) ?_
  clear hK'
  try simp only [Act.put, List.setIfInBounds_toArray, List.set_cons_zero, List.set_cons_succ]
  refine Lex.done ?_
  refine Lex.ends ?_
  have r6 := ((Fr.refl (only [w.heap.size]) w5).setCell ⟨w.heap.size, 0, none⟩ (.slice xa m.d.length xc) (.inl (by simp))).setCell ⟨w.heap.size, 1, none⟩ (.slice ya m.f.length yc) (.inl (by simp))
  have HM6 : Hid (((w5.setCell ⟨w.heap.size, 0, none⟩ (.slice xa m.d.length xc)).setCell ⟨w.heap.size, 1, none⟩ (.slice ya m.f.length yc)).heap[w.heap.size]? = some (.cells #[.slice xa m.d.length xc, .slice ya m.f.length yc] 25 (0, 0))) := Lib.hid (heap_setCell (o := 1) (heap_setCell (o := 0) HM5.out))
  have HZ6 := Lib.hid (r6.heap HZ5.out (by simp))
  have HX6 := Lib.hid (owns_fr HX5.out r6 (fun k hk e => by simp at e; subst e; exact row_block_ne HX5.out HM5.out (by decide) hk))
  have HY6 := Lib.hid (owns_fr HY5.out r6 (fun k hk e => by simp at e; subst e; exact row_block_ne HY5.out HM5.out (by decide) hk))
  have R6 := Lib.hid (R5.out.trans' r6 (fun k hk _ => by simp at hk; omega))
  have SZ6 : Hid (w.heap.size + 2 ≤ ((w5.setCell ⟨w.heap.size, 0, none⟩ (.slice xa m.d.length xc)).setCell ⟨w.heap.size, 1, none⟩ (.slice ya m.f.length yc)).heap.size) := Lib.hid (by have := r6.size; have := SZ5.out; omega)
  have SZX : Hid (w.heap.size ≤ w4.heap.size ∧ w.heap.size ≤ w2.drew.heap.size) := Lib.hid (by have := SZ4.out; have := SZ.out; omega)
  clear r6 m0 m1 n0 n1
  generalize (w5.setCell ⟨w.heap.size, 0, none⟩ (.slice xa m.d.length xc)).setCell ⟨w.heap.size, 1, none⟩ (.slice ya m.f.length yc) = w6 at *
  obtain ⟨g, rfl⟩ : ∃ g, ya = some ⟨g, 0, none⟩ := by
    rcases HY6.out.2 with ⟨hh, h0⟩ | ⟨g', cap', cur, hh, -⟩
    · omega
    · injection hh with e1; exact ⟨g', e1⟩
  have CA : Hid (CopyAt w w6 m l0 g yc l0 0) := Lib.hid ⟨by rw [HLEN.out]; exact owns_base HY6.out (fun k hk => Nat.le_trans SZX.out.1 (HY6.out.lt k hk).1), HL0.out, fun j _ hj => absurd hj (Nat.not_lt_zero j), fun j hj _ => List.getElem?_eq_getElem hj, R6.out⟩
  have HX := Lib.hid (owns_base (base' := w.heap.size) HX6.out (fun k hk => Nat.le_trans SZX.out.2 (HX6.out.lt k hk).1))
  have c1 : w6.cell? ⟨w.heap.size, 1, none⟩ = some (.slice (some ⟨g, 0, none⟩) m.f.length yc) := cell_of_heap HM6.out rfl
  clear HX6 HY6 HX5 HX4 HY5 HM5 HM4 HM3 HZ5 HZ4 HZ3 R5 R4 R2 R6
  go_wp2_with fail
  go_loopw [17] (fun yy wr => ∃ (k : Nat) (l : List FxV), k ≤ m.f.length ∧ yy = .int .i64 k ∧ Hid (CopyAt w wr m l0 g yc l k) ∧ Hid (wr.ownsRow w.heap.size 5 1 (.slice xa m.d.length xc) m.d.length (u8s m.d)) ∧ Hid (wr.heap[w.heap.size]? = some (.cells #[.slice xa m.d.length xc, .slice (some ⟨g, 0, none⟩) m.f.length yc] 25 (0, 0))) ∧ Hid (wr.heap[w.heap.size + 1]? = some (.cells #[.slice none 0 0, .slice none 0 0] 25 (0, 0)))) (fun yy _ => (m.f.length - intOf yy).toNat)
  case atStart => exact ⟨0, l0, by omega, by simp, CA, HX, HM6, HZ6⟩
  case round =>
    obtain ⟨k, l, hk, rfl, hca, hxr, hmr, hzr⟩ := hrel
    have hll : l.length = m.f.length := by rw [← hca.out.names, List.length_map]
    by_cases hkl : k < m.f.length
    · have hlt : (k : Int) < m.f.length := by omega
      have hkl' : k < l.length := by omega
      obtain ⟨p, hp⟩ : ∃ p : FxV, p = l[k] := ⟨_, rfl⟩
      have HP := Lib.hid hp
      obtain ⟨il, hil, hir, hia⟩ := HCD.out p (by have := hca.out.rest k hkl' (Nat.le_refl _); rw [← hp] at this; exact List.mem_of_getElem? this)
      have hfs := HSM.out.each p.1 (by rw [← hca.out.names, hp]; exact List.mem_map.2 ⟨_, List.getElem_mem hkl', rfl⟩)
      have hcl : p.1.c.length ≤ 1000 := hfs.1
      have hilen : il.length = p.1.c.length := by rw [← hil, List.length_map]
      have HIL := Lib.hid hil
      have HIR : Hid (Reads wr (.slice p.2.1 p.1.c.length p.2.2) 6 il.length (cellsOf il)) := Lib.hid (hir.fr hca.out.fr (by simp))
      have HIA : Hid (∀ q ∈ il, Reads w q.2 1 q.1.l.length (ints q.1.l) ∧ q.1.l.length ≤ 1000) := Lib.hid (fun q hq => ⟨hia q hq, hfs.2 q.1 (by rw [← hil]; exact List.mem_map.2 ⟨q, hq, rfl⟩)⟩)
      have c1 : wr.cell? ⟨w.heap.size, 1, none⟩ = some (.slice (some ⟨g, 0, none⟩) m.f.length yc) := cell_of_heap hmr.out rfl
      have c3 : wr.cell? ⟨g, k * 4 + 3, none⟩ = some (.slice p.2.1 p.1.c.length p.2.2) := by
        have h3 := hca.out.row.cells rfl (k * 4 + 3) (.slice p.2.1 p.1.c.length p.2.2) (by rw [fCells_get l k 3 hkl' (by decide), ← hp]; rfl)
        rw [Addr.add_lit, Nat.zero_add] at h3
        exact h3
      obtain ⟨cur, hg, -⟩ := row_cells hca.out.row
      have HG := Lib.hid hg
      clear hil hir hia hfs hp
      go_upto_region 6 with (fail)
      go_wp2_with fail
      refine (clone_ins _ _ il.length (cellsOf il) HIR.out (cellsOf_one (fun q hq => by obtain ⟨a, c, e⟩ := (HIA.out q hq).1.shape; exact ⟨a, _, c, e⟩)) (by omega)).mono ?_
      rintro e w3 ⟨y', rfl, hy', r3⟩
      obtain ⟨ga, gc, rfl⟩ := owns_shape hy'
      rw [hilen] at hy' ⊢
      have hg3 := r3.heap HG.out (by simp)
      have c3' : w3.cell? ⟨g, k * 4 + 3, none⟩ = some (.slice p.2.1 p.1.c.length p.2.2) := r3.cell c3 (by simp)
      have f3' : w3.frozen? ⟨g, k * 4 + 3, none⟩ = false := frozen_of_heap hg3
      have rs := (Fr.refl (only [g]) w3).setCell ⟨g, k * 4 + 3, none⟩ (.slice ga p.1.c.length gc) (.inl (by simp))
      have hgb : w.heap.size ≤ g := (hca.out.row.lt g rfl).1
      have HGB := Lib.hid hgb
      have HGW : Hid (g < wr.heap.size) := Lib.hid (hca.out.row.lt g rfl).2
      have hrow3 := owns_fr hca.out.row r3 (by simp)
      have HROW4 : Hid ((w3.setCell ⟨g, k * 4 + 3, none⟩ (.slice ga p.1.c.length gc)).ownsRow w.heap.size 41 4 (.slice (some ⟨g, 0, none⟩) (l.set k (p.1, ga, gc)).length yc) (l.set k (p.1, ga, gc)).length (fCells (l.set k (p.1, ga, gc)))) := Lib.hid (by
        rw [fCells_set l k _ hkl' (by rw [HP.out]), List.length_set]
        exact (hrow3.stored _ _).1)
      have HYR := Lib.hid (owns_fr hy' rs (fun q hq e => by simp at e; subst e; exact row_block_ne hy' hg3 (by decide) hq))
      have HXR := Lib.hid (owns_fr (owns_fr hxr.out r3 (by simp)) rs (fun q hq e => by simp at e; subst e; exact row_block_ne (owns_fr hxr.out r3 (by simp)) hg3 (by decide) hq))
      have hne0 : w.heap.size ≠ g := block_ne hmr.out HG.out (by decide)
      have hzne : w.heap.size + 1 ≠ g := block_ne hzr.out HG.out (by decide)
      have HMR := Lib.hid (rs.heap (r3.heap hmr.out (by simp)) (by simpa using hne0))
      have HZR := Lib.hid (rs.heap (r3.heap hzr.out (by simp)) (by simpa using hzne))
      have R34 : Hid (Fr (only [g]) wr (w3.setCell ⟨g, k * 4 + 3, none⟩ (.slice ga p.1.c.length gc))) := Lib.hid (r3.to.trans rs)
      have RW4 : Hid (Fr no w (w3.setCell ⟨g, k * 4 + 3, none⟩ (.slice ga p.1.c.length gc))) := Lib.hid (hca.out.fr.trans' R34.out (fun q hq _ => by simp at hq; omega))
      have HG4 := Lib.hid (heap_setCell (o := k * 4 + 3) (v := .slice ga p.1.c.length gc) hg3)
      have hk4 : k * 4 + 3 < cur.size := by
        obtain ⟨cur2, hg2, hcs⟩ := row_cells hca.out.row
        rw [HG.out] at hg2
        injection hg2 with hg2
        injection hg2 with hg2
        subst hg2
        rw [fCells_len] at hcs
        omega
      have C34 : Hid (∀ w' : World, w'.heap[g]? = some (.cells (cur.setIfInBounds (k * 4 + 3) (.slice ga p.1.c.length gc)) 41 (0, 0)) → w'.cell? ⟨g, k * 4 + 3, none⟩ = some (.slice ga p.1.c.length gc)) := Lib.hid (fun w' h => cell_of_heap h (by simp [hk4]))
      have c4 := C34.out _ HG4.out
      clear hy' r3 hg3 rs hrow3 c1 hzne hne0 hgb c3 hk4
      go_upto_region 7 with (fail)
      generalize w3.setCell ⟨g, k * 4 + 3, none⟩ (.slice ga p.1.c.length gc) = w4 at *
      clear c3' f3'
      go_wp2_with fail
      obtain ⟨wz, hwz⟩ : ∃ x, x = wr := ⟨_, rfl⟩
      subst hwz
      go_loopw [37] (fun yy wi => ∃ (j : Nat) (il' : List (Ix × Value)), j ≤ p.1.c.length ∧ yy = .int .i64 j ∧ Hid (InnerAt w wz w4 wi ga gc il il' j)) (fun yy _ => (p.1.c.length - intOf yy).toNat)
      case atStart => exact ⟨0, il, by omega, by simp, Lib.hid ⟨by rw [hilen]; exact HYR.out, rfl, fun i _ hi => absurd hi (Nat.not_lt_zero i), fun i hi _ => List.getElem?_eq_getElem hi, Fr.refl _ _⟩⟩
      case round =>
        obtain ⟨j, il', hj, rfl, hin⟩ := hrel
        have hll' : il'.length = p.1.c.length := by have := congrArg List.length hin.out.names; rw [List.length_map, List.length_map] at this; omega
        have hfr4 : Fr (fun k => (Value.slice ga p.1.c.length gc).ownBlock = some k) w4 wr := by have := hin.out.fr; rw [hilen] at this; exact this
        have HNE : Hid (∀ q, (Value.slice ga p.1.c.length gc).ownBlock = some q → wz.heap.size ≤ q) := Lib.hid (fun q hq => (HYR.out.lt q hq).1)
        have HNG : Hid (¬ (Value.slice ga p.1.c.length gc).ownBlock = some g) := Lib.hid (fun e => by have := HNE.out g e; have := HGW.out; omega)
        have hgr := hfr4.heap HG4.out HNG.out
        have HGR := Lib.hid hgr
        have c7 := C34.out _ hgr
        by_cases hjl : j < p.1.c.length
        · have hltj : (j : Int) < p.1.c.length := by omega
          have hjl' : j < il'.length := by omega
          obtain ⟨q, hq⟩ : ∃ q : Ix × Value, q = il'[j] := ⟨_, rfl⟩
          have HQ := Lib.hid hq
          have hqm : q ∈ il := by have := hin.out.rest j hjl' (Nat.le_refl _); rw [← hq] at this; exact List.mem_of_getElem? this
          obtain ⟨hqr, hql⟩ := HIA.out q hqm
          obtain ⟨aa, ac, haa⟩ := hqr.shape
          have RWI : Hid (Fr no w wr) := Lib.hid (RW4.out.trans' hfr4 (fun i hi _ => by have := HNE.out i hi; have := HGW.out; have := HGB.out; omega))
          have HQR := Lib.hid (hqr.fr RWI.out (by simp))
          obtain ⟨g2, rfl⟩ : ∃ g2, ga = some ⟨g2, 0, none⟩ := by
            rcases HYR.out.2 with ⟨hh, h0⟩ | ⟨g', cap', cur', hh, -⟩
            · omega
            · injection hh with e1; exact ⟨g', e1⟩
          obtain ⟨cu2, hg2, -⟩ := row_cells hin.out.row
          have c8 : wr.cell? ⟨g2, j * 6 + 5, none⟩ = some (.slice aa q.1.l.length ac) := by
            have h3 := hin.out.row.cells rfl (j * 6 + 5) q.2 (by rw [cellsOf_get il' j 5 hjl' (by decide), ← hq]; rfl)
            rw [Addr.add_lit, Nat.zero_add, haa] at h3
            exact h3
          rw [haa] at HQR
          have HG2 := Lib.hid hg2
          have HIN := Lib.hid hin.out
          clear hq hqm hqr haa hg2 hgr
          have S7 : Hid (wr.drew.cell? ⟨g, k * 4 + 3, none⟩ = some (.slice (some ⟨g2, 0, none⟩) p.1.c.length gc) ∧ wr.drew.cell? ⟨g2, j * 6 + 5, none⟩ = some (.slice aa q.1.l.length ac)) := Lib.hid ⟨c7, c8⟩
          clear c7 c8
          go_upto_region 10 with (fail)
          refine Lex.region [13, 16] [14, 3] (by kernel_rfl) (by kernel_rfl) ?_
          refine Lex.opens (fun w' => w'.cell? ⟨g, k * 4 + 3, none⟩ = some (.slice (some ⟨g2, 0, none⟩) p.1.c.length gc) ∧ w'.cell? ⟨g2, j * 6 + 5, none⟩ = some (.slice aa q.1.l.length ac)) (S7.out) ?_
          repeat (first
            | (refine Lex.skips (by rfl) ?_; (try simp only [Act.put, List.setIfInBounds_toArray, List.set_cons_zero, List.set_cons_succ]))
            | (refine Lex.quiet (v := ?_) (by rfl) (by rfl) ?_ ?_; rotate_left; (focus (intro w' hS'; go_simp; try rfl)); (try simp only [Act.put, List.setIfInBounds_toArray, List.set_cons_zero, List.set_cons_succ])))
          refine Lex.loud (by rfl) (by rfl) ?_
          intro K' hK'
          go_simp
          refine (clone_ints _ _ q.1.l.length (ints q.1.l) (HQR.out.fr (Fr.refl no wr).drew (by simp)) (ints_one _) (by omega)).mono ?_
          rintro e w5 ⟨zv, rfl, hzv, r5⟩
          obtain ⟨za, zc, rfl⟩ := owns_shape hzv
          have r5' := (Fr.refl no wr).drew.trans r5
          have hg5 := r5'.heap HG2.out (by simp)
          have c9 : w5.cell? ⟨g2, j * 6 + 5, none⟩ = some (.slice aa q.1.l.length ac) := r5.cell S7.out.2 (by simp)
          have f9 : w5.frozen? ⟨g2, j * 6 + 5, none⟩ = false := frozen_of_heap hg5
          have HZV := Lib.hid hzv
          have R5 := Lib.hid r5'
          have HG5 := Lib.hid hg5
          have S8 : Hid (w5.cell? ⟨g, k * 4 + 3, none⟩ = some (.slice (some ⟨g2, 0, none⟩) p.1.c.length gc) ∧ w5.cell? ⟨g2, j * 6 + 5, none⟩ = some (.slice aa q.1.l.length ac)) := Lib.hid ⟨r5.cell S7.out.1 (by simp), c9⟩
          clear hzv r5 r5' hg5
          refine hK' _ _ (S8.out) ?_
          clear hK'
          try simp only [Act.put, List.setIfInBounds_toArray, List.set_cons_zero, List.set_cons_succ]
          refine Lex.done ?_
          refine Lex.opens (fun _ => True) (trivial) ?_
          repeat (first
            | (refine Lex.skips (by rfl) ?_; (try simp only [Act.put, List.setIfInBounds_toArray, List.set_cons_zero, List.set_cons_succ]))
            | (refine Lex.quiet (v := ?_) (by rfl) (by rfl) ?_ ?_; rotate_left; (focus (intro w' hS'; go_simp; try rfl)); (try simp only [Act.put, List.setIfInBounds_toArray, List.set_cons_zero, List.set_cons_succ])))
          refine Lex.loud (by rfl) (by rfl) ?_
          intro K' hK'
          go_simp
          refine hK' _ _ (trivial) ?_
          clear hK'
          try simp only [Act.put, List.setIfInBounds_toArray, List.set_cons_zero, List.set_cons_succ]
          refine Lex.done ?_
          refine Lex.ends ?_
          have HI2 : Hid (InnerAt w wz w4 (w5.setCell ⟨g2, j * 6 + 5, none⟩ (.slice za q.1.l.length zc)) (some ⟨g2, 0, none⟩) gc il (il'.set j (q.1, .slice za q.1.l.length zc)) (j + 1)) := Lib.hid (HIN.out.step hjl' HQ.out R5.out HG5.out HZV.out (by have := RWI.out.size; have := R5.out.size; simp at this ⊢; omega))
          clear S7 S8 c9 f9
          generalize w5.setCell ⟨g2, j * 6 + 5, none⟩ (.slice za q.1.l.length zc) = w6x at *
          go_wp2_with fail
          go_roundw
          case rel => exact ⟨j + 1, _, by omega, by go_num, HI2⟩
          case measure => first | (simp [intOf]; done) | (simp [intOf]; omega)
        · obtain rfl : j = p.1.c.length := by omega
          have RWI : Hid (Fr no w wr) := Lib.hid (RW4.out.trans' hfr4 (fun i hi _ => by have := HNE.out i hi; have := HGW.out; have := HGB.out; omega))
          have RZI : Hid (Fr (only [g]) wz wr) := Lib.hid (R34.out.trans' hfr4 (fun i hi _ => HNE.out i hi))
          have HCO : Hid (CodeOwn wr w.heap.size (.slice ga p.1.c.length gc) p.1.c) := Lib.hid ⟨il', by rw [hin.out.names]; exact HIL.out, by have := hin.out.row; rw [hll'] at this ⊢; exact owns_base this (fun i hi => by have := HNE.out i hi; have := HGW.out; have := HGB.out; omega), fun x hx => by
            obtain ⟨i, hi, rfl⟩ := List.getElem_of_mem hx
            exact hin.out.done i hi (by omega)⟩
          have HCA : Hid (CopyAt w wr m l0 g yc (l.set k (p.1, ga, gc)) (k + 1)) := Lib.hid (hca.out.step hkl' HP.out HG.out RZI.out RWI.out HCO.out (owns_fr HROW4.out hfr4 (fun i hi e => by
            have h1 : g = i := by simpa [Value.ownBlock] using hi
            subst h1
            exact HNG.out e)))
          have HXF := Lib.hid (owns_fr HXR.out hfr4 (fun i hi e => rows_ne HXR.out HYR.out (by decide) i hi e))
          have HMF := Lib.hid (hfr4.heap HMR.out (fun e => by have := HNE.out _ e; have := HGW.out; have := HGB.out; omega))
          have HZF := Lib.hid (hfr4.heap HZR.out (fun e => row_block_ne HYR.out HZR.out (by decide) e))
          clear hin hgr c7
          go_wp2_with fail
          go_roundw
          case rel => exact ⟨k + 1, _, by omega, by go_num, HCA, HXF, HMF, HZF⟩
          case measure => first | (simp [intOf]; done) | (simp [intOf]; omega)
    · obtain rfl : k = m.f.length := by omega
      have HAT : Hid (At wr w.heap.size 0 [.slice xa m.d.length xc, .slice (some ⟨g, 0, none⟩) m.f.length yc]) := Lib.hid (At.of_heap hmr.out)
      have c1 : wr.cell? ⟨w.heap.size, 1, none⟩ = some (.slice (some ⟨g, 0, none⟩) m.f.length yc) := cell_of_heap hmr.out rfl
      have rz := Inv.fr_row (S := only [w.heap.size + 1]) (g := w.heap.size + 1) (cs := #[.slice xa m.d.length xc, .slice (some ⟨g, 0, none⟩) m.f.length yc]) (Fr.refl _ wr) (.inl (by simp))
      have HEND := Lib.hid (Inv.row_heap wr (w.heap.size + 1) _ #[.slice xa m.d.length xc, .slice (some ⟨g, 0, none⟩) m.f.length yc] _ hzr.out)
      have HMO : Hid (ModOwn wr w.heap.size m xa xc (some ⟨g, 0, none⟩) yc) := Lib.hid ⟨hxr.out, l, hca.out.names, ⟨by have := hca.out.row; rw [hll] at this ⊢; exact this, fun x hx => by
        obtain ⟨i, hi, rfl⟩ := List.getElem_of_mem hx
        exact hca.out.done i hi (by omega)⟩⟩
      have HMO2 := Lib.hid (HMO.out.odd rz (fun i hi => .inr (by simp at hi; subst hi; exact ⟨_, _, hzr.out, by decide⟩)))
      have RF := Lib.hid (hca.out.fr.trans' rz (fun i hi _ => by simp at hi; omega))
      clear rz
      go_upto_region 13 with (fail)
      go_wp2_with (first
        | (refine wpList_load_in (o := ⟨some 58, .load 25 (.tmp 1), _, _, _, _⟩) rfl 25 (.tmp 1) rfl w.heap.size _ rfl _ _ HAT.out Tryz.underlying25 rfl (by rw [Tryz.infoMod2]; rfl) ?_)
        | (refine wpList_store_row rfl 25 (.tmp 2) (.tmp 58) rfl (w.heap.size + 1) #[.slice xa m.d.length xc, .slice (some ⟨g, 0, none⟩) m.f.length yc] rfl rfl _ _ hzr.out (by rw [Tryz.infoMod2]; rfl) rfl (by simp [Value.oneCell']) ?_; rw [act_put_none]))
      refine bodyPost_ret (results_one rfl rfl (run_loadVar_row _ (w.heap.size + 1) _ _ _ _ _ HEND.out Tryz.underlying25 rfl (by rw [Tryz.infoMod2]; rfl))) rfl ?_
      exact ⟨_, _, _, _, rfl, HMO2.out, RF.out⟩

end Go.Proofs.YtihnkijeefkefaaGreat

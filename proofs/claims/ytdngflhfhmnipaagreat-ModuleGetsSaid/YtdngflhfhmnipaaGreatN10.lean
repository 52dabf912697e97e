/- twinshaftref08.Get. -/
import Derived.Test.YtdngflhfhmnipaaGreatN8
import Derived.Test.YtdngflhfhmnipaaGreatN9
import Derived.Test.YtdngflhfhmnipaaGreatM16
set_option linter.unusedSimpArgs false
set_option linter.unusedVariables false
set_option linter.unusedSectionVars false
set_option linter.unnecessarySimpa false
namespace Go.Proofs.YtdngflhfhmnipaaGreat
open Go.RowKit

attribute [local go_sem] Program.isFuncB Program.isSliceB

variable {w w' w'' w0 : World}

theorem failP_stays {s : Pl} (h : s.er ≠ 0) (e a : Int) : failP s e a = s := by unfold failP; rw [if_neg h]
theorem getD_ref (bs : List Nat) : getD bs = if getN bs < 1 ∨ 64 < getN bs then failP (getC bs).2 2 (getB bs).2.at_ else (getC bs).2 := by
  unfold getD
  by_cases h : (getC bs).2.er = 0
  · simp [h]
  · simp only [h, false_and, if_false]
    split
    · exact (failP_stays h _ _).symm
    · rfl
def fxR (bs : List Nat) (s : Pl) : Fx := ⟨(unle (fnA bs s).1 : Nat), (unle (fnBb bs s).1 : Nat), (unle (fnC bs s).1 : Nat), (fnSp bs s).is⟩
theorem functionP_one {bs : List Nat} {s : Pl} (h : (functionP bs s).2.er = 0) : (functionP bs s).1 = [fxR bs s] := by
  unfold functionP at h ⊢
  split
  · rename_i h0
    rw [if_pos h0] at h
    exact absurd h h0
  · rfl
theorem fxR_small (bs : List Nat) (s : Pl) (hb : bs.length ≤ 1000) : (fxR bs s).Small := by
  have h1 : (fnD bs s).1.length ≤ bs.length := takeP_few _ _ _
  refine ⟨?_, fun i hi => ?_⟩
  · have := (splitR_len (fnD bs s).1 ((fnD bs s).1.length + 1) [] [] 0 (Nat.le_refl _) rfl (Nat.zero_le _)).2
    have h2 := (splitR_len (fnD bs s).1 ((fnD bs s).1.length + 1) [] [] 0 (Nat.le_refl _) rfl (Nat.zero_le _)).1
    show (fnSp bs s).is.length ≤ 1000
    unfold fnSp
    omega
  · have := splitR_few (fnD bs s).1 ((fnD bs s).1.length + 1) [] [] 0 (by intro i hi; cases hi) i hi
    omega
theorem loopP_stop (bs : List Nat) (x : List Fx × Pl) (k : Nat) (h : (loopP bs k x).2.er ≠ 0) : ∀ d, loopP bs (k + d) x = loopP bs k x
  | 0 => rfl
  | d + 1 => by
    rw [show k + (d + 1) = (k + d) + 1 from rfl]
    have ih := loopP_stop bs x k h d
    have e : loopP bs (k + d + 1) x = (if (loopP bs (k + d) x).2.er = 0 then ((loopP bs (k + d) x).1 ++ (functionP bs (loopP bs (k + d) x).2).1, (functionP bs (loopP bs (k + d) x).2).2) else loopP bs (k + d) x) := rfl
    rw [e, ih, if_neg h]
theorem loopP_step {bs : List Nat} {x : List Fx × Pl} {k : Nat} (h : (loopP bs k x).2.er = 0) : loopP bs (k + 1) x = ((loopP bs k x).1 ++ (functionP bs (loopP bs k x).2).1, (functionP bs (loopP bs k x).2).2) := by
  have e : loopP bs (k + 1) x = (if (loopP bs k x).2.er = 0 then ((loopP bs k x).1 ++ (functionP bs (loopP bs k x).2).1, (functionP bs (loopP bs k x).2).2) else loopP bs k x) := rfl
  rw [e, if_pos h]

/-- no fault, no place of a fault -/
def Okf (s : Pl) : Prop := s.er = 0 → s.fa = 0
theorem Okf.fail {s : Pl} (h : Okf s) {e : Int} (he : e ≠ 0) (a : Int) : Okf (failP s e a) := by
  unfold failP
  split
  · exact fun h0 => absurd h0 he
  · exact h
theorem Okf.take {s : Pl} (h : Okf s) (bs : List Nat) (n : Nat) : Okf (takeP bs n s).2 := by
  unfold takeP
  split
  · exact h
  · split
    · exact h.fail (by decide) _
    · exact h
theorem Okf.block {s : Pl} (h : Okf s) (bs : List Nat) (m : Nat) : Okf (blockP bs m s).2 := by
  unfold blockP blockS
  split
  · exact ((h.take bs 2).fail (by decide) _).take bs _
  · exact (h.take bs 2).take bs _
theorem Okf.func {s : Pl} (h : Okf s) (bs : List Nat) : Okf (functionP bs s).2 := by
  have hd : Okf (fnD bs s).2 := (((h.take bs 1).take bs 1).take bs 2).block bs 4096
  unfold functionP
  split
  · exact hd
  · dsimp only
    split
    · exact hd.fail (by decide) _
    · exact hd
theorem Okf.loop {x : List Fx × Pl} (h : Okf x.2) (bs : List Nat) : ∀ k, Okf (loopP bs k x).2
  | 0 => h
  | k + 1 => by
    have ih := Okf.loop h bs k
    have e : loopP bs (k + 1) x = (if (loopP bs k x).2.er = 0 then ((loopP bs k x).1 ++ (functionP bs (loopP bs k x).2).1, (functionP bs (loopP bs k x).2).2) else loopP bs k x) := rfl
    rw [e]
    split
    · exact ih.func bs
    · exact ih
theorem getG_okf (bs : List Nat) : Okf (getG bs) := by
  have hh : Okf (headP bs) := by
    refine Okf.take ?_ bs 3
    unfold headS
    split
    · exact fun h => absurd h (by decide)
    · exact fun _ => rfl
  have hc : Okf (getC bs).2 := (hh.block bs 8192).take bs 1
  have hd : Okf (getD bs) := by
    unfold getD
    split
    · exact hc.fail (by decide) _
    · exact hc
  have he : Okf (getE bs).2 := Okf.loop (x := ([], getD bs)) hd bs _
  have hf : Okf (getF bs) := by
    unfold getF
    split
    · exact he.fail (by decide) _
    · exact he
  unfold getG
  split
  · exact hf.fail (by decide) _
  · exact hf

/-- where the document's Get stands -/
structure RG (w wr : World) (bv : Value) (bs : List Nat) (s : Pl) (ds : List Nat) (da : Option Addr) (dc tb : Nat) (oa : Option Addr) (oc : Nat) (l : List FxV) : Prop where
  res : wr.heap[w.heap.size]? = some (.cells #[.slice none 0 0, .slice none 0 0] 25 (0, 0))
  flt : wr.heap[w.heap.size + 1]? = some (.cells #[.int .i64 0, .int .i64 0] 38 (0, 0))
  rl : RlAt wr (w.heap.size + 2) bv bs s
  obj : wr.heap[tb]? = some (.cells #[.slice da ds.length dc, .slice oa l.length oc] 25 (0, 0))
  data : wr.ownsRow w.heap.size 5 1 (.slice da ds.length dc) ds.length (u8s ds)
  fns : FnsOwn wr w.heap.size (.slice oa l.length oc) l
  fr : Fr no w wr
  lo : w.heap.size + 2 < tb
  old : ∀ k, bv.ownBlock = some k → k < w.heap.size
section
variable {wr wr' : World} {bv : Value} {bs ds : List Nat} {s s' : Pl} {da oa : Option Addr} {dc tb oc : Nat} {l : List FxV}
theorem RG.to (h : RG w wr bv bs s ds da dc tb oa oc l) (r : Fr (only [w.heap.size + 2]) wr wr') (hp : RlAt wr' (w.heap.size + 2) bv bs s') : RG w wr' bv bs s' ds da dc tb oa oc l := by
  have lo := h.lo
  exact ⟨r.heap h.res (by simp), r.heap h.flt (by simp), hp, r.heap h.obj (by simp; omega), owns_fr h.data r (fun k hk e => by simp at e; subst e; exact row_block_ne h.data h.rl.obj (by decide) hk), h.fns.odd r (fun k hk => .inr (by simp at hk; subst hk; exact ⟨_, _, h.rl.obj, by decide⟩)), h.fr.trans' r (fun k hk _ => by simp at hk; omega), h.lo, h.old⟩
theorem RG.same (h : RG w wr bv bs s ds da dc tb oa oc l) (r : Fr no wr wr') : RG w wr' bv bs s ds da dc tb oa oc l := h.to r.to (h.rl.fn r)
theorem RG.app {ga : Option Addr} {gc : Nat} {p : FxV} (h : RG w wr bv bs s ds da dc tb oa oc l) (hc : CodeOwn wr w.heap.size p.val p.1.c) (hg : wr.grownBy w' (Value.slice oa l.length oc).ownBlock) (ho : w'.ownsRow w.heap.size 44 4 (.slice ga (l.length + 1) gc) (l.length + 1) (fCells l ++ p.1.cells p.val)) : RG w (w'.setCell ⟨tb, 1, none⟩ (.slice ga (l.length + 1) gc)) bv bs s ds da dc tb ga gc (l ++ [p]) := by
  have q : Fr (fun k => (Value.slice oa l.length oc).ownBlock = some k) wr w' := (Fr.refl _ wr).grown hg (fun k hk => .inl hk)
  have o1 := q.heap h.obj (row_block_ne h.fns.row h.obj (by decide))
  have b1 := q.heap h.flt (row_block_ne h.fns.row h.flt (by decide))
  have s1 := q.heap h.res (row_block_ne h.fns.row h.res (by decide))
  have p1 := h.rl.fr q (row_block_ne h.fns.row h.rl.obj (by decide)) (fun k hk e => by have := h.old k hk; have := (h.fns.row.lt k e).1; omega)
  have d1 := owns_fr h.data q (fun k hk e => rows_ne h.data h.fns.row (by decide) k hk e)
  have f1 := h.fns.app hc hg ho
  have rs : Fr (only [tb]) w' (w'.setCell ⟨tb, 1, none⟩ (.slice ga (l.length + 1) gc)) := (Fr.refl _ w').setCell _ _ (.inl (by simp))
  have lo := h.lo
  refine ⟨rs.heap s1 (by simp; omega), rs.heap b1 (by simp; omega), p1.fr rs (by simp; omega) (fun k hk => by have := h.old k hk; simp; omega), ?_, owns_fr d1 rs (fun k hk e => by simp at e; subst e; exact row_block_ne d1 o1 (by decide) hk), by rw [List.length_append]; exact f1.odd rs (fun k hk => .inr (by simp at hk; subst hk; exact ⟨_, _, o1, by decide⟩)), (h.fr.trans' q (fun k hk _ => (h.fns.row.lt k hk).1)).trans' rs (fun k hk _ => by simp at hk; omega), h.lo, h.old⟩
  have := heap_setCell (o := 1) (v := .slice ga (l.length + 1) gc) o1
  simpa using this
theorem RG.modIn {fs : List Fx} (h : RG w wr bv bs s ds da dc tb oa oc l) (he : l.map Prod.fst = fs) : ModIn wr ⟨ds, fs⟩ da dc oa := by
  obtain ⟨a, c, h1, h2⟩ := h.fns.read
  injection h1 with e1 e2 e3
  subst e1
  exact ⟨owns_reads h.data, he ▸ h2⟩
end

/-- the two results are laid into their cells -/
theorem RG.done {wr : World} {bv : Value} {bs ds : List Nat} {s : Pl} {da oa : Option Addr} {dc tb oc : Nat} {l : List FxV} (h : RG w wr bv bs s ds da dc tb oa oc l) (u v : Value) (er fa : Int) :
    let w2 := (wr.setRow w.heap.size #[u, v]).setRow (w.heap.size + 1) #[.int .i64 er, .int .i64 fa]
    (wr.setRow w.heap.size #[u, v]).heap[w.heap.size + 1]? = some (.cells #[.int .i64 0, .int .i64 0] 38 (0, 0)) ∧
    w2.heap[w.heap.size]? = some (.cells #[u, v] 25 (0, 0)) ∧ w2.heap[w.heap.size + 1]? = some (.cells #[.int .i64 er, .int .i64 fa] 38 (0, 0)) ∧ Fr no w w2 ∧ ModIn w2 ⟨ds, l.map Prod.fst⟩ da dc oa := by
  intro w2
  have r1 : Fr (only [w.heap.size]) wr (wr.setRow w.heap.size #[u, v]) := fr_setRow (Fr.refl _ wr) (.inl (by simp))
  have h1 := setRow_heap wr w.heap.size _ #[u, v] _ _ h.res
  have f1 := r1.heap h.flt (by simp)
  have r2 : Fr (only [w.heap.size + 1]) (wr.setRow w.heap.size #[u, v]) w2 := fr_setRow (Fr.refl _ _) (.inl (by simp))
  have h2 := r2.heap h1 (by simp)
  have f2 := setRow_heap (wr.setRow w.heap.size #[u, v]) (w.heap.size + 1) _ #[.int .i64 er, .int .i64 fa] _ _ f1
  have r3 : Fr (fun k => k = w.heap.size ∨ k = w.heap.size + 1) wr w2 := (r1.mono (fun k hk _ => by simp at hk; exact .inl hk)).trans (r2.mono (fun k hk _ => by simp at hk; exact .inr hk))
  have hd : ∀ k, (Value.slice da ds.length dc).ownBlock = some k → ¬ (k = w.heap.size ∨ k = w.heap.size + 1) := fun k hk e => by
    rcases e with e | e
    · subst e; exact row_block_ne h.data h.res (by decide) hk
    · subst e; exact row_block_ne h.data h.flt (by decide) hk
  have hf := h.fns.odd r3 (fun k hk => by
    rcases hk with hk | hk
    · subst hk; exact .inr ⟨_, _, h.res, by decide⟩
    · subst hk; exact .inr ⟨_, _, h.flt, by decide⟩)
  obtain ⟨a, c, e1, e2⟩ := hf.read
  injection e1 with e3 e4 e5
  subst e3
  exact ⟨f1, h2, f2, h.fr.trans' r3 (fun k hk _ => by omega), owns_reads (owns_fr h.data r3 hd), e2⟩

set_option maxRecDepth 100000 in
set_option maxHeartbeats 32000000 in
theorem refget_mod (w : World) (bv : Value) (bs : List Nat) (hb : Reads w bv 1 bs.length (u8s bs)) (hform : (bv = .slice none 0 0 ∧ bs = []) ∨ ∃ b o c, bv = .slice (some ⟨b, o, none⟩) bs.length c) (hlt : ∀ b ∈ bs, b < 256) (hbl : bs.length ≤ 1000) (hold : ∀ k, bv.ownBlock = some k → k < w.heap.size) :
    Calls Tryz.prog 19 #[bv] w fun e w' => ∃ da dc fa fc, e = .returned (.tuple #[.agg #[.slice da (getM bs).1.d.length dc, .slice fa (getM bs).1.f.length fc], .agg #[.int .i64 (getM bs).2.1, .int .i64 (getM bs).2.2]]) ∧ ModIn w' (getM bs).1 da dc fa ∧ Fr no w w' := by
  obtain ⟨va, vc, rfl⟩ := hb.shape
  have r3 : Fr no w (((w.alloc (.cells #[.slice none 0 0, .slice none 0 0] 25)).alloc (.cells #[.int .i64 0, .int .i64 0] 38)).alloc (.cells #[.slice va bs.length vc, .int .i64 0, .int .i64 0, .int .i64 0] 77)) := (((Fr.refl no w).alloc _).alloc _).alloc _
  have q3 : Fr no (w.alloc (.cells #[.slice none 0 0, .slice none 0 0] 25)) (((w.alloc (.cells #[.slice none 0 0, .slice none 0 0] 25)).alloc (.cells #[.int .i64 0, .int .i64 0] 38)).alloc (.cells #[.slice va bs.length vc, .int .i64 0, .int .i64 0, .int .i64 0] 77)) := ((Fr.refl no _).alloc _).alloc _
  have A1 := Lib.hid (q3.heap (heap_new w (.cells #[.slice none 0 0, .slice none 0 0] 25)) (by simp))
  have A2 := Lib.hid (heap_keep (heap_new2' w (.cells #[.slice none 0 0, .slice none 0 0] 25) (.cells #[.int .i64 0, .int .i64 0] 38)) (.cells #[.slice va bs.length vc, .int .i64 0, .int .i64 0, .int .i64 0] 77))
  have a3 := heap_new ((w.alloc (.cells #[.slice none 0 0, .slice none 0 0] 25)).alloc (.cells #[.int .i64 0, .int .i64 0] 38)) (.cells #[.slice va bs.length vc, .int .i64 0, .int .i64 0, .int .i64 0] 77)
  rw [World.size_alloc, World.size_alloc] at a3
  have A3 : Hid (RlAt (((w.alloc (.cells #[.slice none 0 0, .slice none 0 0] 25)).alloc (.cells #[.int .i64 0, .int .i64 0] 38)).alloc (.cells #[.slice va bs.length vc, .int .i64 0, .int .i64 0, .int .i64 0] 77)) (w.heap.size + 2) (.slice va bs.length vc) bs ⟨0, 0, 0⟩) := Lib.hid
    ⟨a3, hb.fr r3 (by simp), fun k hk => by have := hold k hk; omega, Nat.zero_le _, hform⟩
  have R3 := Lib.hid r3
  have HLT := Lib.hid hlt
  have HOL := Lib.hid hold
  clear r3 q3 a3 hb hform hlt hold
  go_enter Tryz.func19, Tryz.ntmps19
  go_wp2_with fail
  refine (refhead_ok _ _ _ bs A3.out HLT.out (by omega)).mono ?_
  rintro e w2 ⟨rfl, hp2, r2⟩
  have HP2 := Lib.hid hp2
  have R2 := Lib.hid r2
  clear hp2 r2
  have hs2 : w.heap.size + 3 ≤ w2.heap.size := by have := R2.out.size; simp only [World.size_alloc] at this; omega
  go_wp2_with fail
  refine (refblock_ok w2 _ 8192 _ bs _ HP2.out HLT.out (by omega) (fun k hk => by have := HOL.out k hk; omega)).mono ?_
  rintro e w4 ⟨v, rfl, hv, hp4, r4⟩
  obtain ⟨xa, xc, rfl⟩ := owns_shape hv
  have EB : Hid (blockP bs 8192 (headP bs) = getB bs) := Lib.hid rfl
  rw [EB.out] at hv hp4 ⊢
  have EC : Hid (takeP bs 1 (getB bs).2 = getC bs) := Lib.hid rfl
  have EN : Hid (unle (getC bs).1 = getN bs) := Lib.hid rfl
  have ED : Hid (getD bs = if getN bs < 1 ∨ 64 < getN bs then failP (getC bs).2 2 (getB bs).2.at_ else (getC bs).2) := Lib.hid (getD_ref bs)
  have HBD : Hid ((getB bs).1.length ≤ bs.length ∧ ∀ b ∈ (getB bs).1, b < 256) := Lib.hid ⟨takeP_few _ _ _, blockP_lt HLT.out _ _⟩
  have GN : getN bs < 256 := by
    have h1 := takeP_lt HLT.out 1 (getB bs).2
    have h2 := takeP_len bs 1 (getB bs).2 (getB_at bs)
    have := unle_lt (getC bs).1 h1
    have h3 : 256 ^ (getC bs).1.length ≤ 256 ^ 1 := Nat.pow_le_pow_right (by decide) h2
    show unle (getC bs).1 < 256
    omega
  have hs4 : w.heap.size + 3 ≤ w4.heap.size := by have := r4.size; omega
  have G5 : Hid (RG w (w4.alloc (.cells #[.slice xa (getB bs).1.length xc, .slice none 0 0] 25)) (.slice va bs.length vc) bs (getB bs).2 (getB bs).1 xa xc w4.heap.size none 0 []) := Lib.hid (by
    have r5 := (Fr.refl no w4).alloc (.cells #[.slice xa (getB bs).1.length xc, .slice none 0 0] 25)
    have r := R2.out.trans r4
    exact ⟨r5.heap (r.heap A1.out (by simp)) (by simp), r5.heap (r.heap A2.out (by simp)) (by simp), hp4.fn r5, heap_new _ _, owns_fr (owns_base hv (fun k hk => by have := (hv.lt k hk).1; omega)) r5 (by simp), ⟨World.ownsRow_nil _ _ _ _, fun p hp => (by cases hp)⟩, (R3.out.trans' r (fun k hk _ => by simp at hk; omega)).trans r5, by omega, HOL.out⟩)
  obtain ⟨tb, htb⟩ : ∃ b, b = w4.heap.size := ⟨_, rfl⟩
  rw [← htb] at G5
  clear hv hp4 r4 A1 A2 A3 R3 HP2 R2 hs2 hs4
  have OUT : Hid (getMx bs = ⟨(getB bs).1, (getE bs).1⟩ ∧ getE bs = loopP bs (getN bs) ([], getD bs) ∧ (getF bs = if (getE bs).2.at_ < bs.length then failP (getE bs).2 4 (getE bs).2.at_ else (getE bs).2) ∧ (getG bs = if modCk (getMx bs) ≠ 0 then failP (getF bs) 2 0 else getF bs) ∧ getM bs = if (getG bs).er ≠ 0 then (⟨[], []⟩, (getG bs).er, (getG bs).fa) else (getMx bs, 0, 0)) := Lib.hid ⟨rfl, rfl, rfl, rfl, rfl⟩
  generalize hgb : getB bs = gb at *
  obtain ⟨gds, gbs⟩ := gb
  dsimp only at *
  obtain ⟨ga, ger, gfa⟩ := gbs
  dsimp only at *
  clear EB hgb
  obtain ⟨-, p1, -, -⟩ := cells4 G5.out.rl.obj
  go_wp2_with fail
  have C := refnum_ok _ (w.heap.size + 2) 1 _ bs _ G5.out.rl (.inl rfl) HLT.out (by omega)
  rw [EC.out, EN.out] at C
  try rw [← htb]
  clear htb
  refine C.mono ?_
  clear C
  rintro e w6 ⟨rfl, hp, r⟩
  have G6 := Lib.hid (G5.out.to r hp)
  clear hp r G5 p1 EC EN
  generalize getN bs = gn at *
  generalize getC bs = gc at *
  obtain ⟨gcl, gcs⟩ := gc
  dsimp only at ED G6
  clear gcl
  generalize getD bs = gd at *
  go_upto_region 6 with fail
  go_cut [29] (fun b wx => b = .bool (decide (gn < 1 ∨ 64 < gn)) ∧ wx = w6)
  case first =>
    by_cases h1 : gn < 1
    · have HD := Lib.hid (decide_eq_true (show gn < 1 ∨ 64 < gn from .inl h1))
      have h1' : (gn : Int) < 1 := by omega
      clear h1
      go_wp2_with fail
      go_meet
      exact ⟨by rw [HD.out], rfl⟩
    have h1' : ¬ (gn : Int) < 1 := by omega
    by_cases h2 : 64 < gn
    · have HD := Lib.hid (decide_eq_true (show gn < 1 ∨ 64 < gn from .inr h2))
      have h2' : (64 : Int) < gn := by omega
      clear h1 h2
      go_wp2_with fail
      go_meet
      exact ⟨by rw [HD.out], rfl⟩
    have h2' : ¬ (64 : Int) < gn := by omega
    have HD := Lib.hid (decide_eq_false (show ¬ (gn < 1 ∨ 64 < gn) from fun h => by omega))
    clear h1 h2
    go_wp2_with fail
    go_meet
    exact ⟨by rw [HD.out], rfl⟩
  case rest =>
    obtain ⟨rfl, hwc⟩ := hcut
    subst hwc
    obtain ⟨w9, h9⟩ : ∃ x, x = wc := ⟨_, rfl⟩
    subst h9
    go_upto_if 29 with fail
    go_cut [] (fun wx => Hid (RG w wx (.slice va bs.length vc) bs gd gds xa xc tb none 0 []))
    case first =>
      by_cases hc : gn < 1 ∨ 64 < gn
      case neg =>
        have GX : RG w w9 (.slice va bs.length vc) bs gd gds xa xc tb none 0 [] := by rw [ED.out, if_neg hc]; exact G6.out
        rw [decide_eq_false hc]
        clear hc
        go_wp2_with fail
        go_meet
        exact Lib.hid GX
      have GY : Hid (gd = failP gcs 2 ga) := Lib.hid (by rw [ED.out, if_pos hc])
      rw [decide_eq_true hc]
      clear hc
      go_wp2_with fail
      refine (reffail_ok _ _ _ bs _ 2 ga G6.out.rl).mono ?_
      rintro e WW ⟨rfl, hp, r⟩
      have GX : RG w WW (.slice va bs.length vc) bs gd gds xa xc tb none 0 [] := by rw [GY.out]; exact G6.out.to r hp
      go_wp2_with fail
      go_meet
      exact Lib.hid GX
    case rest =>
      have HG0 := hcut
      clear hcut
      go_wp2_with fail
      go_loopw [8] (fun x wr => ∃ (k : Nat) (l : List FxV) (oa : Option Addr) (oc : Nat), k ≤ gn ∧ l.length ≤ k ∧ x = .int .i64 k ∧ Hid (RG w wr (.slice va bs.length vc) bs (loopP bs k ([], gd)).2 gds xa xc tb oa oc l) ∧ Hid ((loopP bs k ([], gd)).2.er = 0 → l.map Prod.fst = (loopP bs k ([], gd)).1) ∧ Hid (∀ p ∈ l, p.1.Small)) (fun x _ => (gn - intOf x).toNat)
      case atStart => exact ⟨0, [], none, 0, by omega, by simp, rfl, HG0, Lib.hid (fun _ => rfl), Lib.hid (fun p hp => by cases hp)⟩
      case round =>
        obtain ⟨k, l, oa, oc, hk, hlk, rfl, hG, hM, hS⟩ := hrel
        have d2 : wr.cell? ⟨w.heap.size + 2, 2, none⟩ = some (.int .i64 (loopP bs k ([], gd)).2.er) := cell_of_heap hG.out.rl.obj rfl
        have EE : Hid (¬ (k < gn ∧ (loopP bs k ([], gd)).2.er = 0) → loopP bs k ([], gd) = getE bs) := Lib.hid (fun h => by
          rw [OUT.out.2.1]
          by_cases hkg : k < gn
          · have := loopP_stop bs ([], gd) k (fun e => h ⟨hkg, e⟩) (gn - k)
            rw [show k + (gn - k) = gn from by omega] at this
            exact this.symm
          · rw [show k = gn from by omega])
        have SP := Lib.hid (fun h => loopP_step (bs := bs) (x := ([], gd)) (k := k) h)
        go_upto_region 9 with fail
        go_cut [43] (fun b wx => b = .bool (decide (k < gn ∧ (loopP bs k ([], gd)).2.er = 0)) ∧ wx = wr)
        case first =>
          by_cases h1 : k < gn
          case neg =>
            have HD := Lib.hid (decide_eq_false (fun h : k < gn ∧ (loopP bs k ([], gd)).2.er = 0 => h1 h.1))
            have h1' : ¬ (k : Int) < gn := by omega
            clear h1
            go_wp2_with fail
            go_meet
            exact ⟨by rw [HD.out], rfl⟩
          have h1' : (k : Int) < gn := by omega
          by_cases h2 : (loopP bs k ([], gd)).2.er = 0
          · have HD := Lib.hid (decide_eq_true (show k < gn ∧ (loopP bs k ([], gd)).2.er = 0 from ⟨h1, h2⟩))
            have e1 : ((loopP bs k ([], gd)).2.er == 0) = true := by simpa using h2
            clear h1 h2
            go_wp2_with fail
            go_meet
            exact ⟨by rw [HD.out], rfl⟩
          · have HD := Lib.hid (decide_eq_false (fun h : k < gn ∧ (loopP bs k ([], gd)).2.er = 0 => h2 h.2))
            have e1 : ((loopP bs k ([], gd)).2.er == 0) = false := by simpa using h2
            clear h1 h2
            go_wp2_with fail
            go_meet
            exact ⟨by rw [HD.out], rfl⟩
        case rest =>
          obtain ⟨rfl, hwc⟩ := hcut
          subst hwc
          obtain ⟨wr, h9⟩ : ∃ x, x = wc := ⟨_, rfl⟩
          subst h9
          clear d2
          by_cases hc : k < gn ∧ (loopP bs k ([], gd)).2.er = 0
          case neg =>
            rw [decide_eq_false hc]
            rw [EE.out hc] at hG hM
            clear EE SP hc
            have OUT2 := OUT.out
            have SMH : Hid (Mx.Small ⟨gds, l.map Prod.fst⟩) := Lib.hid ⟨by show gds.length ≤ 1000; have := HBD.out.1; omega, by show (l.map Prod.fst).length ≤ 1000; rw [List.length_map]; omega, fun f hf => by
              obtain ⟨p, hp, rfl⟩ := List.mem_map.1 hf
              exact hS.out p hp, HBD.out.2⟩
            have HGG : Hid (getG bs = if modCk ⟨gds, l.map Prod.fst⟩ ≠ 0 then failP (getF bs) 2 0 else getF bs) := Lib.hid (by
              obtain ⟨o1, o2, o3, o4, o5⟩ := OUT2
              by_cases he : (getF bs).er = 0
              · have he2 : (getE bs).2.er = 0 := by
                  rcases Decidable.em ((getE bs).2.er = 0) with h | h
                  · exact h
                  · exfalso
                    rw [o3] at he
                    split at he
                    · rw [failP_stays h] at he; exact h he
                    · exact h he
                rw [o4, o1, hM.out he2]
              · rw [o4]
                split <;> split <;> first | rfl | (rw [failP_stays he]))
            have EF : Hid (getF bs = if (getE bs).2.at_ < bs.length then failP (getE bs).2 4 (getE bs).2.at_ else (getE bs).2) := Lib.hid OUT2.2.2.1
            have EM : Hid (getM bs = if (getG bs).er ≠ 0 then (⟨[], []⟩, (getG bs).er, (getG bs).fa) else (getMx bs, 0, 0)) := Lib.hid OUT2.2.2.2.2
            have EX : Hid ((getG bs).er = 0 → getMx bs = ⟨gds, l.map Prod.fst⟩) := Lib.hid (fun he => by
              obtain ⟨o1, o2, o3, o4, o5⟩ := OUT2
              have hf : (getF bs).er = 0 := by
                rcases Decidable.em ((getF bs).er = 0) with h | h
                · exact h
                · exfalso
                  rw [o4] at he
                  split at he
                  · rw [failP_stays h] at he; exact h he
                  · exact h he
              have he2 : (getE bs).2.er = 0 := by
                rcases Decidable.em ((getE bs).2.er = 0) with h | h
                · exact h
                · exfalso
                  rw [o3] at hf
                  split at hf
                  · rw [failP_stays h] at hf; exact h hf
                  · exact h hf
              rw [o1, hM.out he2])
            have OKG : Hid (Okf (getG bs)) := Lib.hid (getG_okf bs)
            clear OUT2 hM
            generalize getF bs = gf at *
            generalize getG bs = gg at *
            generalize getE bs = ge at *
            obtain ⟨gel, ges⟩ := ge
            dsimp only at hG EF
            obtain ⟨sa, se, sf⟩ := ges
            dsimp only at hG EF
            have d1 : wr.cell? ⟨w.heap.size + 2, 1, none⟩ = some (.int .i64 sa) := cell_of_heap hG.out.rl.obj rfl
            go_upto_if 60 with fail
            go_cut [] (fun wx => Hid (RG w wx (.slice va bs.length vc) bs gf gds xa xc tb oa oc l))
            case first =>
              by_cases hs : sa < bs.length
              case neg =>
                have hs' : ¬ (sa : Int) < bs.length := by omega
                have GX : RG w wr (.slice va bs.length vc) bs gf gds xa xc tb oa oc l := by rw [EF.out, if_neg hs]; exact hG.out
                clear hs
                go_wp2_with fail
                go_meet
                exact Lib.hid GX
              have hs' : (sa : Int) < bs.length := by omega
              have GY : Hid (gf = failP ⟨sa, se, sf⟩ 4 sa) := Lib.hid (by rw [EF.out, if_pos hs])
              clear hs
              go_wp2_with fail
              refine (reffail_ok _ _ _ bs _ 4 sa hG.out.rl).mono ?_
              rintro e WW ⟨rfl, hp, r⟩
              have GX : RG w WW (.slice va bs.length vc) bs gf gds xa xc tb oa oc l := by rw [GY.out]; exact hG.out.to r hp
              go_wp2_with fail
              go_meet
              exact Lib.hid GX
            case rest =>
              have GF := hcut
              clear hcut d1 hG EF
              obtain ⟨w9, h9⟩ : ∃ x, x = wc := ⟨_, rfl⟩
              subst h9
              obtain ⟨t0, t1⟩ := cells2 GF.out.obj
              have C := refcheck_mod w9 ⟨gds, l.map Prod.fst⟩ xa xc oa oc (GF.out.modIn rfl) SMH.out
              dsimp only at C
              rw [List.length_map] at C
              have CH := Lib.hid C
              clear C
              generalize modCk ⟨gds, l.map Prod.fst⟩ = ck at *
              go_wp2_with fail
              refine CH.out.mono ?_
              rintro e w10 ⟨rfl, r⟩
              have GF2 := Lib.hid (GF.out.same r)
              clear r GF CH t0 t1
              go_upto_if 69 with fail
              go_cut [] (fun wx => Hid (RG w wx (.slice va bs.length vc) bs gg gds xa xc tb oa oc l))
              case first =>
                by_cases hck : ck = 0
                · have e1 : (ck != 0) = false := by simpa using hck
                  have GX : RG w w10 (.slice va bs.length vc) bs gg gds xa xc tb oa oc l := by rw [HGG.out, if_neg (by simpa using hck)]; exact GF2.out
                  clear hck
                  go_wp2_with fail
                  go_meet
                  exact Lib.hid GX
                · have e1 : (ck != 0) = true := by simpa using hck
                  have GY : Hid (gg = failP gf 2 0) := Lib.hid (by rw [HGG.out, if_pos hck])
                  clear hck
                  go_wp2_with fail
                  refine (reffail_ok _ _ _ bs _ 2 0 GF2.out.rl).mono ?_
                  rintro e WW ⟨rfl, hp, r⟩
                  have GX : RG w WW (.slice va bs.length vc) bs gg gds xa xc tb oa oc l := by rw [GY.out]; exact GF2.out.to r hp
                  go_wp2_with fail
                  go_meet
                  exact Lib.hid GX
              case rest =>
                have GZ := hcut
                clear hcut GF2 HGG
                obtain ⟨w12, h12⟩ : ∃ x, x = wc := ⟨_, rfl⟩
                subst h12
                obtain ⟨-, -, z2, -⟩ := cells4 GZ.out.rl.obj
                have PA : At w12.drew (w.heap.size + 2) 2 [.int .i64 gg.er, .int .i64 gg.fa] := fun j v hj => by
                  match j, hj with
                  | 0, hj => cases hj; exact cell_of_heap (o := 2) GZ.out.rl.obj rfl
                  | 1, hj => cases hj; exact cell_of_heap (o := 3) GZ.out.rl.obj rfl
                have GD := Lib.hid (GZ.out.same (Fr.refl no w12).drew)
                by_cases her : gg.er = 0
                case neg =>
                  have e1 : (gg.er != 0) = true := by simpa using her
                  have EMQ : Hid (getM bs = (⟨[], []⟩, gg.er, gg.fa)) := Lib.hid (by rw [EM.out, if_pos her])
                  clear her
                  have HD := Lib.hid (GD.out.done (.slice none 0 0) (.slice none 0 0) gg.er gg.fa)
                  go_upto_region 18 with fail
                  refine Lex.region [5, 6] [6, 1] (by kernel_rfl) (by kernel_rfl) ?_
                  refine Lex.opens (fun w' => At w' (w.heap.size + 2) 2 [.int .i64 gg.er, .int .i64 gg.fa]) (PA) ?_
                  repeat (first
                    | (refine Lex.skips (by rfl) ?_; (try simp only [Act.put, List.setIfInBounds_toArray, List.set_cons_zero, List.set_cons_succ]))
                    | (refine Lex.into (by rfl) (by rfl) _ _ rfl _ _ rfl _ _ (fun w' h => h) Tryz.underlying38 rfl (by rw [Tryz.infoFault]; rfl) ?_; (try simp only [Act.put, List.setIfInBounds_toArray, List.set_cons_zero, List.set_cons_succ]))
                    | (refine Lex.quiet (v := ?_) (by rfl) (by rfl) ?_ ?_; rotate_left; (focus (intro w' hS'; go_simp; try rfl)); (try simp only [Act.put, List.setIfInBounds_toArray, List.set_cons_zero, List.set_cons_succ])))
                  refine Lex.loud (by rfl) (by rfl) ?_
                  intro K' hK'
                  refine wp_store_row 25 (.tmp 2) (.tmp 78) rfl w.heap.size #[.slice none 0 0, .slice none 0 0] rfl rfl _ _ GD.out.res (by rw [Tryz.infoMod2]; rfl) rfl (by simp [Value.oneCell']) ?_
                  have rx : Fr (only [w.heap.size]) w12.drew (w12.drew.setRow w.heap.size #[.slice none 0 0, .slice none 0 0]) := fr_setRow (Fr.refl _ _) (.inl (by simp))
                  refine hK' _ _ (PA.frx rx (by simp)) ?_
                  clear hK'
                  try simp only [Act.put, List.setIfInBounds_toArray, List.set_cons_zero, List.set_cons_succ]
                  refine Lex.done ?_
                  refine Lex.opens (fun _ => True) (trivial) ?_
                  refine Lex.loud (by rfl) (by rfl) ?_
                  intro K' hK'
                  refine wp_store_row 38 (.tmp 3) (.tmp 82) rfl (w.heap.size + 1) #[.int .i64 gg.er, .int .i64 gg.fa] rfl rfl _ _ HD.out.1 (by rw [Tryz.infoFault]; rfl) rfl (by simp [Value.oneCell']) ?_
                  refine hK' _ _ (trivial) ?_
                  clear hK'
                  try simp only [Act.put, List.setIfInBounds_toArray, List.set_cons_zero, List.set_cons_succ]
                  refine Lex.done ?_
                  refine Lex.ends ?_
                  go_wp2_with fail
                  (try simp only [Exit.inBlock, Exit.then])
                  refine bodyPost_ret (results_two rfl rfl rfl (load_mod _ _ _ _ HD.out.2.1) (load_fault _ _ _ _ HD.out.2.2.1)) rfl ?_
                  rw [EMQ.out]
                  dsimp only
                  exact ⟨none, 0, none, ⟨0, rfl⟩, ⟨.inl ⟨rfl, rfl, rfl⟩, fun k hk => by simp at hk⟩, HD.out.2.2.2.1⟩
                have e1 : (gg.er != 0) = false := by simpa using her
                have EMQ : Hid (getM bs = (⟨gds, l.map Prod.fst⟩, 0, 0)) := Lib.hid (by rw [EM.out, if_neg (by simpa using her), EX.out her])
                have hfa := OKG.out her
                rw [her, hfa] at PA
                clear hfa her
                have HD := Lib.hid (GD.out.done (.slice xa gds.length xc) (.slice oa l.length oc) 0 0)
                have PT : At w12.drew tb 0 [.slice xa gds.length xc, .slice oa l.length oc] := At.of_heap GD.out.obj
                have ltb := GD.out.lo
                go_upto_region 19 with fail
                refine Lex.region [5, 6] [6, 1] (by kernel_rfl) (by kernel_rfl) ?_
                refine Lex.opens (fun w' => At w' tb 0 [.slice xa gds.length xc, .slice oa l.length oc] ∧ At w' (w.heap.size + 2) 2 [.int .i64 0, .int .i64 0]) (⟨PT, PA⟩) ?_
                repeat (first
                  | (refine Lex.skips (by rfl) ?_; (try simp only [Act.put, List.setIfInBounds_toArray, List.set_cons_zero, List.set_cons_succ]))
                  | (refine Lex.into (by rfl) (by rfl) _ _ rfl _ _ rfl _ _ (fun w' h => h.1) Tryz.underlying25 rfl (by rw [Tryz.infoMod2]; rfl) ?_; (try simp only [Act.put, List.setIfInBounds_toArray, List.set_cons_zero, List.set_cons_succ]))
                  | (refine Lex.into (by rfl) (by rfl) _ _ rfl _ _ rfl _ _ (fun w' h => h.2) Tryz.underlying38 rfl (by rw [Tryz.infoFault]; rfl) ?_; (try simp only [Act.put, List.setIfInBounds_toArray, List.set_cons_zero, List.set_cons_succ]))
                  | (refine Lex.quiet (v := ?_) (by rfl) (by rfl) ?_ ?_; rotate_left; (focus (intro w' hS'; go_simp; try rfl)); (try simp only [Act.put, List.setIfInBounds_toArray, List.set_cons_zero, List.set_cons_succ])))
                refine Lex.loud (by rfl) (by rfl) ?_
                intro K' hK'
                refine wp_store_row 25 (.tmp 2) (.tmp 83) rfl w.heap.size #[.slice xa gds.length xc, .slice oa l.length oc] rfl rfl _ _ GD.out.res (by rw [Tryz.infoMod2]; rfl) rfl (by simp [Value.oneCell']) ?_
                have rx : Fr (only [w.heap.size]) w12.drew (w12.drew.setRow w.heap.size #[.slice xa gds.length xc, .slice oa l.length oc]) := fr_setRow (Fr.refl _ _) (.inl (by simp))
                refine hK' _ _ (⟨PT.frx rx (by simp; omega), PA.frx rx (by simp)⟩) ?_
                clear hK'
                try simp only [Act.put, List.setIfInBounds_toArray, List.set_cons_zero, List.set_cons_succ]
                refine Lex.done ?_
                refine Lex.opens (fun _ => True) (trivial) ?_
                refine Lex.loud (by rfl) (by rfl) ?_
                intro K' hK'
                refine wp_store_row 38 (.tmp 3) (.tmp 87) rfl (w.heap.size + 1) #[.int .i64 0, .int .i64 0] rfl rfl _ _ HD.out.1 (by rw [Tryz.infoFault]; rfl) rfl (by simp [Value.oneCell']) ?_
                refine hK' _ _ (trivial) ?_
                clear hK'
                try simp only [Act.put, List.setIfInBounds_toArray, List.set_cons_zero, List.set_cons_succ]
                refine Lex.done ?_
                refine Lex.ends ?_
                go_wp2_with fail
                (try simp only [Exit.inBlock, Exit.then])
                refine bodyPost_ret (results_two rfl rfl rfl (load_mod _ _ _ _ HD.out.2.1) (load_fault _ _ _ _ HD.out.2.2.1)) rfl ?_
                rw [EMQ.out]
                dsimp only
                exact ⟨xa, xc, oa, ⟨oc, by rw [List.length_map]⟩, HD.out.2.2.2.2, HD.out.2.2.2.1⟩
          rw [decide_eq_true hc]
          have SPE := Lib.hid (SP.out hc.2)
          have HMM := Lib.hid (hM.out hc.2)
          have FO := Lib.hid (fun h => functionP_one (bs := bs) (s := (loopP bs k ([], gd)).2) h)
          have FS := Lib.hid (fxR_small bs (loopP bs k ([], gd)).2 hbl)
          have hkn := hc.1
          clear hc EE SP hM
          generalize loopP bs k ([], gd) = y0 at *
          obtain ⟨y0l, s⟩ := y0
          dsimp only at hG SPE HMM FO FS
          have FXD : Hid (fxR bs s = ⟨(unle (fnA bs s).1 : Nat), (unle (fnBb bs s).1 : Nat), (unle (fnC bs s).1 : Nat), (fnSp bs s).is⟩) := Lib.hid rfl
          have FN := Lib.hid (reffunction_ok wr _ _ bs s hG.out.rl HLT.out (by omega) (fun k hk => Nat.lt_of_lt_of_le (hG.out.old k hk) hG.out.fr.size))
          generalize unle (fnA bs s).1 = n1 at *
          generalize unle (fnBb bs s).1 = n2 at *
          generalize unle (fnC bs s).1 = n3 at *
          generalize (fnSp bs s).is = is at *
          generalize fxR bs s = fx at *
          generalize functionP bs s = fp at *
          obtain ⟨fpl, fps⟩ := fp
          dsimp only at FN SPE FO
          go_wp2_with fail
          refine FN.out.mono ?_
          rintro e w10 ⟨ca, cc, rfl, hco, hp, r⟩
          have r11 := (Fr.refl no w10).alloc (.cells #[.int .i64 n1, .int .i64 n2, .int .i64 n3, .slice ca is.length cc] 44)
          have r12 := (Fr.refl no (w10.alloc (.cells #[.int .i64 n1, .int .i64 n2, .int .i64 n3, .slice ca is.length cc] 44))).alloc (.cells #[.int .i64 n1, .int .i64 n2, .int .i64 n3, .slice ca is.length cc] 44)
          have G11 := Lib.hid ((hG.out.to r hp).same r11)
          have G12 := Lib.hid (G11.out.same r12)
          have C12 := Lib.hid (((CodeOwn.base hco hG.out.fr.size).fn r11).fn r12)
          have F11 := Lib.hid (fnObj w10 n1 n2 n3 (.slice ca is.length cc))
          have hr12 := reads_four (w10.alloc (.cells #[.int .i64 n1, .int .i64 n2, .int .i64 n3, .slice ca is.length cc] 44)) (.int .i64 n1) (.int .i64 n2) (.int .i64 n3) (.slice ca is.length cc) 44
          rw [World.size_alloc] at hr12
          have R12 := Lib.hid hr12
          clear hr12
          clear hco hp r r11 r12 hG FN
          obtain ⟨t0, t1⟩ := cells2 G11.out.obj
          obtain ⟨f0, f1, f2, f3⟩ := cells4 F11.out
          go_wp2_with (at_builtin; (refine wpList_append_at rfl (.tmp 49) _ 23 rfl w.heap.size 44 (.agg zeroFn) 4 48 Tryz.underlying23 Tryz.infoFunc3 rfl (by decide) _ l.length _ rfl G12.out.fns.row 1 _ R12.out (four_one _ _ _ _ _ _ ()) (by unfold maxLen; omega) (by omega) G12.out.fr.size ?_); intro ga gc wg ho hg hb; have G13 := Lib.hid (G12.out.app (p := ((⟨n1, n2, n3, is⟩ : Fx), ca, cc)) C12.out hg ho); have ob := ((Fr.refl (fun k => (Value.slice oa l.length oc).ownBlock = some k) _).grown hg (fun k hk => .inl hk)).heap G12.out.obj (row_block_ne G12.out.fns.row G12.out.obj (by decide)); have x1 := cell_of_heap (o := 1) ob rfl; have y1 := frozen_of_heap (o := 1) ob; clear ho hg hb ob)
          go_roundw
          case rel => exact ⟨k + 1, l ++ [((⟨n1, n2, n3, is⟩ : Fx), ca, cc)], _, _, by omega, by simp; omega, by go_num, by rw [SPE.out]; exact G13, Lib.hid (by
            rw [SPE.out]
            intro he
            rw [List.map_append, HMM.out, FO.out he, FXD.out]
            rfl), Lib.hid (fun p hp => by
            rcases List.mem_append.1 hp with hp | hp
            · exact hS.out p hp
            · rw [List.mem_singleton] at hp
              subst hp
              have := FS.out
              rw [FXD.out] at this
              exact this)⟩
          case measure => first | (simp [intOf]; done) | (simp [intOf]; omega)

end Go.Proofs.YtdngflhfhmnipaaGreat

import Derived.Test.YtihnkijeefkefaaGreatMB
import Derived.Test.YtihnkijeefkefaaGreatMA
import Derived.Test.YtihnkijeefkefaaGreatLE
set_option linter.unusedSimpArgs false
set_option linter.unusedVariables false
set_option linter.unusedSectionVars false
set_option linter.unnecessarySimpa false
set_option maxRecDepth 100000
/- kit's CopyModule. -/
namespace Go.Proofs.YtihnkijeefkefaaGreat
open Go.RowKit

attribute [local go_sem] Program.isFuncB Program.isSliceB

variable {w w' w'' w0 : World}

theorem CodeOwn.base {base base' : Nat} {v : Value} {is : List Ix} (h : CodeOwn w base v is) (hb : base' ≤ base) : CodeOwn w base' v is := by
  obtain ⟨l, e, h3, h4⟩ := h
  exact ⟨l, e, owns_base h3 (fun k hk => Nat.le_trans hb (h3.lt k hk).1), fun p hp => owns_base (h4 p hp) (fun k hk => Nat.le_trans hb ((h4 p hp).lt k hk).1)⟩

/-- instructions in memory of their own -/
theorem copycode_own (w : World) (sa : Option Addr) (c : Nat) (is : List Ix) (hin : CodeIn w sa is) (hlen : is.length ≤ 100000) (hargs : ∀ i ∈ is, i.l.length ≤ 100000) :
    Calls Tryz.prog 112 #[.slice sa is.length c] w fun e w' => ∃ a c', e = .returned (.slice a is.length c') ∧ CodeOwn w' w.heap.size (.slice a is.length c') is ∧ Fr no w w' := by
  have HIN := Lib.hid hin
  have HAR := Lib.hid hargs
  clear hin hargs
  go_enter Tryz.func112, Tryz.ntmps112
  go_wp2_with fail
  go_loopw [3, 4] (fun x y wr => ∃ l : List (Ix × Value), l.length ≤ is.length ∧ y = .int .i64 l.length ∧ Hid (l.map Prod.fst = is.take l.length) ∧ Hid (CC w wr x l)) (fun _ y _ => (is.length - intOf y).toNat)
  case atStart => exact ⟨[], by simp, rfl, Lib.hid rfl, Lib.hid ⟨Fr.refl _ _, World.ownsRow_nil _ _ _ _, fun p hp => (by cases hp)⟩⟩
  case round =>
    obtain ⟨l, hk, rfl, hpre, hcc⟩ := hrel
    obtain ⟨xa, xc, rfl⟩ := owns_shape hcc.out.out
    by_cases hks : l.length < is.length
    · have hks' : (l.length : Int) < is.length := by omega
      obtain ⟨b, of, u, rfl, hi⟩ := HIN.out.fr hcc.out.fr l.length hks
      obtain ⟨ua, uc, rfl⟩ := hi.args.shape
      obtain ⟨c0, c1, c2, c3, c4, c5⟩ := hi.six
      obtain ⟨ix, hix⟩ : ∃ i, i = is[l.length] := ⟨_, rfl⟩
      have HSN : Hid (l.map Prod.fst ++ [ix] = is.take (l.length + 1)) := Lib.hid (by rw [List.take_succ_eq_append_getElem hks, hpre.out, hix])
      have HPP := Lib.hid (copyins_ok wr ix.o ix.A ix.B ix.C ix.N _ ix.l (by rw [hix]; exact hi.args) (by rw [hix]; exact HAR.out _ (List.getElem_mem hks)))
      rw [← hix] at c0 c1 c2 c3 c4 c5 HPP
      clear hi hix
      obtain ⟨io, iA, iB, iC, iN, il⟩ := ix
      dsimp only at c0 c1 c2 c3 c4 c5 HPP
      unfold insV at HPP
      go_wp2_with fail
      refine HPP.out.mono ?_
      rintro e w5 ⟨v, rfl, hv, r5⟩
      obtain ⟨va, vc, rfl⟩ := owns_shape hv
      have r6 := r5.alloc (.cells #[.int .i64 io, .int .i64 iA, .int .i64 iB, .int .i64 iC, .int .i64 iN, .slice va il.length vc] 112)
      have HC6 := Lib.hid (hcc.out.to r6)
      have HV6 := Lib.hid (owns_base (base' := w.heap.size) (owns_fr hv ((Fr.refl no w5).alloc (.cells #[.int .i64 io, .int .i64 iA, .int .i64 iB, .int .i64 iC, .int .i64 iN, .slice va il.length vc] 112)) (by simp)) (fun k hk => by have := (hv.lt k hk).1; have := hcc.out.fr.size; omega))
      have HR6 := Lib.hid (reads_six w5 (.int .i64 io) (.int .i64 iA) (.int .i64 iB) (.int .i64 iC) (.int .i64 iN) (.slice va il.length vc) 112)
      clear r5 r6 hv c0 c1 c2 c3 c4 c5 hcc
      go_wp2_with (at_builtin; (refine wpList_append_at rfl (.tmp 11) _ 39 rfl w.heap.size 112 (.agg zeroIns) 6 64 Tryz.underlying39 Tryz.infoIns3 rfl (by decide) _ l.length _ rfl HC6.out.out 1 _ HR6.out (six_one _ _ _ _ _ _ _ _ ()) (by unfold maxLen; omega) (by omega) HC6.out.fr.size ?_); intro gd ge w7 ho hg hb)
      have HC7 := Lib.hid (HC6.out.app (i := ⟨io, iA, iB, iC, iN, il⟩) (u := .slice va il.length vc) HV6.out ho hg)
      clear ho hg hb
      go_roundw
      case rel => exact ⟨l ++ [(⟨io, iA, iB, iC, iN, il⟩, .slice va il.length vc)], by simp; omega, by rw [List.length_append]; go_num, Lib.hid (by rw [List.map_append, List.length_append]; exact HSN.out), HC7⟩
      case measure => first | (simp [intOf]; done) | (simp [intOf]; omega)
    · have hlk : l.length = is.length := by omega
      have HLK := Lib.hid hlk
      have HQ : Hid (CodeOwn wr w.heap.size (.slice xa is.length xc) is) := Lib.hid (by
        refine ⟨l, by rw [hpre.out, hlk, List.take_length], ?_, hcc.out.args⟩
        rw [← hlk]
        exact hcc.out.out)
      have R := Lib.hid hcc.out.fr
      clear hcc hpre hlk
      go_wp2_with fail
      go_ret
      exact ⟨xa, xc, by rw [← HLK.out]; rfl, HQ.out, R.out⟩

structure CM (w wr : World) (m : Mx) (tb : Nat) (box : Array Value) (xa : Option Addr) (xc : Nat) (oa : Option Addr) (oc : Nat) (l : List FxV) : Prop where
  obj : wr.heap[tb]? = some (.cells #[.slice xa m.d.length xc, .slice oa l.length oc] 25 (0, 0))
  box : wr.heap[w.heap.size]? = some (.cells box 25 (0, 0))
  res : wr.heap[w.heap.size + 1]? = some (.cells #[.slice none 0 0, .slice none 0 0] 25 (0, 0))
  data : wr.ownsRow w.heap.size 5 1 (.slice xa m.d.length xc) m.d.length (u8s m.d)
  fns : FnsOwn wr w.heap.size (.slice oa l.length oc) l
  fr : Fr no w wr
  lo : w.heap.size + 1 < tb
theorem CM.fn {wr wr' : World} {m : Mx} {tb : Nat} {box : Array Value} {xa oa : Option Addr} {xc oc : Nat} {l : List FxV} (h : CM w wr m tb box xa xc oa oc l) (r : Fr no wr wr') : CM w wr' m tb box xa xc oa oc l :=
  ⟨r.heap h.obj (by simp), r.heap h.box (by simp), r.heap h.res (by simp), owns_fr h.data r (by simp), h.fns.fn r, h.fr.trans r, h.lo⟩
/-- a block of the call's own, of a function, has turned -/
theorem CM.turn {wr wr' : World} {m : Mx} {tb fb : Nat} {box cs : Array Value} {xa oa : Option Addr} {xc oc : Nat} {l : List FxV} (h : CM w wr m tb box xa xc oa oc l) (r : Fr (only [fb]) wr wr') (hf : wr.heap[fb]? = some (.cells cs 41 (0, 0))) (h1 : ∀ k, (Value.slice oa l.length oc).ownBlock = some k → k ≠ fb) (hb : w.heap.size + 1 < fb) (hn : fb ≠ tb) : CM w wr' m tb box xa xc oa oc l := by
  refine ⟨r.heap h.obj (by simp; omega), r.heap h.box (by simp; omega), r.heap h.res (by simp; omega), owns_fr h.data r (fun k hk e => ?_), ⟨owns_fr h.fns.row r (fun k hk e => h1 k hk (by simpa using e)), fun p hp => (h.fns.code p hp).odd (ts := [112, 3]) r (fun k hk => .inr ?_) (by simp) (by simp)⟩, h.fr.trans' r (fun k hk _ => by simp at hk; omega), h.lo⟩
  · simp at e; subst e; exact row_block_ne h.data hf (by decide) hk
  · simp at hk; subst hk; exact ⟨_, _, hf, by decide⟩
theorem CM.app {wr : World} {m : Mx} {tb : Nat} {box : Array Value} {xa oa ga : Option Addr} {xc oc gc : Nat} {l : List FxV} {p : FxV} (h : CM w wr m tb box xa xc oa oc l) (hc : CodeOwn wr w.heap.size p.val p.1.c) (hg : wr.grownBy w' (Value.slice oa l.length oc).ownBlock) (ho : w'.ownsRow w.heap.size 41 4 (.slice ga (l.length + 1) gc) (l.length + 1) (fCells l ++ p.1.cells p.val)) : CM w (w'.setCell ⟨tb, 1, none⟩ (.slice ga (l.length + 1) gc)) m tb box xa xc ga gc (l ++ [p]) := by
  have q : Fr (fun k => (Value.slice oa l.length oc).ownBlock = some k) wr w' := (Fr.refl _ wr).grown hg (fun k hk => .inl hk)
  have o1 := q.heap h.obj (row_block_ne h.fns.row h.obj (by decide))
  have b1 := q.heap h.box (row_block_ne h.fns.row h.box (by decide))
  have s1 := q.heap h.res (row_block_ne h.fns.row h.res (by decide))
  have d1 := owns_fr h.data q (fun k hk e => rows_ne h.data h.fns.row (by decide) k hk e)
  have f1 := h.fns.app hc hg ho
  have rs : Fr (only [tb]) w' (w'.setCell ⟨tb, 1, none⟩ (.slice ga (l.length + 1) gc)) := (Fr.refl _ w').setCell _ _ (.inl (by simp))
  have lo := h.lo
  refine ⟨?_, rs.heap b1 (by simp; omega), rs.heap s1 (by simp; omega), owns_fr d1 rs (fun k hk e => by simp at e; subst e; exact row_block_ne d1 o1 (by decide) hk), by rw [List.length_append]; exact f1.odd rs (fun k hk => .inr (by simp at hk; subst hk; exact ⟨_, _, o1, by decide⟩)), (h.fr.trans' q (fun k hk _ => (h.fns.row.lt k hk).1)).trans' rs (fun k hk _ => by simp at hk; omega), h.lo⟩
  have := heap_setCell (o := 1) (v := .slice ga (l.length + 1) gc) o1
  simpa using this
theorem CM.modIn {wr : World} {m : Mx} {tb : Nat} {box : Array Value} {xa oa : Option Addr} {xc oc : Nat} {l : List FxV} (h : CM w wr m tb box xa xc oa oc l) (he : l.map Prod.fst = m.f) : ModIn wr m xa xc oa := by
  obtain ⟨a, c, h1, h2⟩ := h.fns.read
  cases h1
  exact ⟨owns_reads h.data, he ▸ h2⟩
/-- a module of the call's own -/
structure ModOwn (w : World) (base : Nat) (m : Mx) (xa : Option Addr) (xc : Nat) (oa : Option Addr) (oc : Nat) : Prop where
  data : w.ownsRow base 5 1 (.slice xa m.d.length xc) m.d.length (u8s m.d)
  fns : ∃ l : List FxV, l.map Prod.fst = m.f ∧ FnsOwn w base (.slice oa m.f.length oc) l
theorem ModOwn.odd {S : Nat → Prop} {base : Nat} {m : Mx} {xa oa : Option Addr} {xc oc : Nat} (h : ModOwn w base m xa xc oa oc) (r : Fr S w w') (ho : Odd w S [5, 41, 112, 3]) : ModOwn w' base m xa xc oa oc := by
  obtain ⟨h1, l, h2, h3⟩ := h
  refine ⟨owns_odd h1 r ho (by simp), l, h2, h3.odd r (fun k hk => ?_)⟩
  rcases ho k hk with h | ⟨cs, t, e1, e2⟩
  · exact .inl h
  · exact .inr ⟨cs, t, e1, fun e => e2 (List.mem_cons_of_mem _ e)⟩
theorem ModOwn.base {base base' : Nat} {m : Mx} {xa oa : Option Addr} {xc oc : Nat} (h : ModOwn w base m xa xc oa oc) (hb : base' ≤ base) : ModOwn w base' m xa xc oa oc := by
  obtain ⟨h1, l, h2, h3⟩ := h
  exact ⟨owns_base h1 (fun k hk => Nat.le_trans hb (h1.lt k hk).1), l, h2, ⟨owns_base h3.row (fun k hk => Nat.le_trans hb (h3.row.lt k hk).1), fun p hp => (h3.code p hp).base hb⟩⟩
theorem ModOwn.modIn {base : Nat} {m : Mx} {xa oa : Option Addr} {xc oc : Nat} (h : ModOwn w base m xa xc oa oc) : ModIn w m xa xc oa := by
  obtain ⟨h1, l, h2, h3⟩ := h
  obtain ⟨a, c, h4, h5⟩ := h3.read
  injection h4 with e1 e2 e3
  subst e1
  exact ⟨owns_reads h1, h2 ▸ h5⟩
theorem results_one {P : Program} {fn : Func} {tmps : Array Value} {w : World} {d1 : Tmp} {t1 : TypeId} {a1 : Addr} {v1 : Value} (hr : fn.results = #[.cell d1 t1])
    (h1 : tmps.getD d1 undef = .pointer (some a1)) (l1 : (loadVar t1 a1).run P w = .ok v1 w) : (results fn tmps).run P w = .ok v1 w := by
  have h1' : tmps[d1]?.getD undef = .pointer (some a1) := by rw [← h1]; simp [Array.getD_eq_getD_getElem?]
  simp only [results, hr]
  simp [h1', asAddr, l1]

set_option maxRecDepth 100000 in
set_option maxHeartbeats 16000000 in
theorem copymod_ok (w : World) (m : Mx) (da : Option Addr) (dc : Nat) (fa : Option Addr) (fc : Nat) (hm : ModIn w m da dc fa) (hs : m.Small) :
    Calls Tryz.prog 46 #[.agg #[.slice da m.d.length dc, .slice fa m.f.length fc]] w fun e w' => ∃ a c a' c', e = .returned (.agg #[.slice a m.d.length c, .slice a' m.f.length c']) ∧ ModOwn w' w.heap.size m a c a' c' ∧ Fr no w w' := by
  have HM := Lib.hid hm
  have HS := Lib.hid hs
  have hs1 := hs.data
  have hs2 := hs.fns
  have r1 := (Fr.refl no w).alloc (.cells #[.slice da m.d.length dc, .slice fa m.f.length fc] 25)
  have r2 := r1.alloc (.cells #[.slice none 0 0, .slice none 0 0] 25)
  have q2 := (Fr.refl no (w.alloc (.cells #[.slice da m.d.length dc, .slice fa m.f.length fc] 25))).alloc (.cells #[.slice none 0 0, .slice none 0 0] 25)
  have B2 := Lib.hid (q2.heap (modObj w (.slice da m.d.length dc) (.slice fa m.f.length fc)) (by simp))
  have z2 := modObj (w.alloc (.cells #[.slice da m.d.length dc, .slice fa m.f.length fc] 25)) (.slice none 0 0) (.slice none 0 0)
  rw [World.size_alloc] at z2
  have Z2 := Lib.hid z2
  have R2 := Lib.hid r2
  have CB := Lib.hid (copybytes_ok _ _ m.d (hm.data.fr r2 (by simp)) (by omega))
  have S2 : Hid (((w.alloc (.cells #[.slice da m.d.length dc, .slice fa m.f.length fc] 25)).alloc (.cells #[.slice none 0 0, .slice none 0 0] 25)).heap.size = w.heap.size + 2) := Lib.hid (by rw [World.size_alloc, World.size_alloc])
  clear r1 r2 q2 z2 hm hs
  go_enter Tryz.func46, Tryz.ntmps46
  obtain ⟨c0, c1⟩ := cells2 B2.out
  go_wp2_with fail
  refine CB.out.mono ?_
  rintro e w3 ⟨x, rfl, hx, r3⟩
  obtain ⟨xa, xc, rfl⟩ := owns_shape hx
  have r4 := (Fr.refl no w3).alloc (.cells #[.slice xa m.d.length xc, .slice none 0 0] 25)
  obtain ⟨tb, htb⟩ : ∃ b, b = w3.heap.size := ⟨_, rfl⟩
  have C4 : Hid (CM w (w3.alloc (.cells #[.slice xa m.d.length xc, .slice none 0 0] 25)) m w3.heap.size #[.slice da m.d.length dc, .slice fa m.f.length fc] xa xc none 0 []) := Lib.hid (by
    have hsz := r3.size
    rw [S2.out] at hsz
    exact ⟨heap_new _ _, r4.heap (r3.heap B2.out (by simp)) (by simp), r4.heap (r3.heap Z2.out (by simp)) (by simp), owns_fr (owns_base hx (fun k hk => by have := (hx.lt k hk).1; rw [S2.out] at this; omega)) r4 (by simp), ⟨World.ownsRow_nil _ _ _ _, fun p hp => (by cases hp)⟩, R2.out.trans (r3.trans r4), by omega⟩)
  rw [← htb] at C4
  clear r3 r4 hx CB c0 c1 B2 Z2 S2 R2
  go_wp2_with fail
  try rw [← htb]
  clear htb
  go_loopw [4] (fun x wr => ∃ (l : List FxV) (oa : Option Addr) (oc : Nat), l.length ≤ m.f.length ∧ x = .int .i64 l.length ∧ Hid (l.map Prod.fst = m.f.take l.length) ∧ Hid (CM w wr m tb #[.slice da m.d.length dc, .slice fa m.f.length fc] xa xc oa oc l)) (fun x _ => (m.f.length - intOf x).toNat)
  case atStart => exact ⟨[], none, 0, by simp, rfl, Lib.hid rfl, C4⟩
  case round =>
    obtain ⟨l, oa, oc, hk, rfl, hpre, C0⟩ := hrel
    obtain ⟨c0, c1⟩ := cells2 C0.out.box
    by_cases hks : l.length < m.f.length
    · have hks' : (l.length : Int) < m.f.length := by omega
      have FI := HM.out.fns.fr C0.out.fr
      obtain ⟨b, of, ca, cc, rfl, hi⟩ := FI l.length hks
      obtain ⟨d0, d1, d2, d3⟩ := hi.four
      have hsm := HS.out.each _ (List.getElem_mem hks)
      obtain ⟨fx, hfx⟩ : ∃ i, i = m.f[l.length] := ⟨_, rfl⟩
      have HSN : Hid (l.map Prod.fst ++ [fx] = m.f.take (l.length + 1)) := Lib.hid (by rw [List.take_succ_eq_append_getElem hks, hpre.out, hfx])
      have CODE := hi.code
      rw [← hfx] at d0 d1 d2 d3 CODE hsm
      clear hi FI hfx
      obtain ⟨fp, fr, far, fcode⟩ := fx
      obtain ⟨hsm1, hsm2⟩ := hsm
      dsimp only at hsm1 hsm2 d0 d1 d2 d3 CODE
      have r1 := (Fr.refl no wr).alloc (.cells #[.int .i64 fp, .int .i64 fr, .int .i64 far, .slice ca fcode.length cc] 41)
      have C1 := Lib.hid (C0.out.fn r1)
      have F1 := Lib.hid (fnObj wr fp fr far (.slice ca fcode.length cc))
      have J1 := Lib.hid (copycode_own _ ca cc fcode (CODE.fr r1) (by omega) (fun i hi => by have := hsm2 i hi; omega))
      have SZ1 : Hid (w.heap.size ≤ (wr.alloc (.cells #[.int .i64 fp, .int .i64 fr, .int .i64 far, .slice ca fcode.length cc] 41)).heap.size) := Lib.hid C1.out.fr.size
      have LT0 : Hid (tb < wr.heap.size) := Lib.hid (Array.getElem?_eq_some_iff.1 C0.out.obj).1
      have NE0 : Hid (∀ k, (Value.slice oa l.length oc).ownBlock = some k → k ≠ wr.heap.size) := Lib.hid (fun k hk => by have := (C0.out.fns.row.lt k hk).2; omega)
      have f3 := frozen_of_heap (o := 3) F1.out
      obtain ⟨f0, f1, f2, f3'⟩ := cells4 F1.out
      clear r1 CODE hsm1 hsm2
      go_wp2_with fail
      refine J1.out.mono ?_
      rintro e w4 ⟨va, vc, rfl, hv, r4⟩
      have CO4 := Lib.hid (CodeOwn.base hv SZ1.out)
      have C4 := Lib.hid (C1.out.fn r4)
      have F4 := Lib.hid (r4.heap F1.out (by simp))
      obtain ⟨fb, hfb⟩ : ∃ b, b = wr.heap.size := ⟨_, rfl⟩
      rw [← hfb] at F4 NE0 LT0
      have g3 := frozen_of_heap (o := 3) F4.out
      clear hv r4 J1 C0 C1 F1 SZ1 c0 c1 d0 d1 d2 d3 f0 f1 f2 f3 f3'
      try rw [← hfb]
      clear hfb
      obtain ⟨c0, c1⟩ := cells2 C4.out.box
      obtain ⟨f0, f1, f2, f3'⟩ := cells4 F4.out
      go_upto_region 7 with fail
      have rz : Fr (only [fb]) w4 (w4.setCell ⟨fb, 3, none⟩ (.slice va fcode.length vc)) := (Fr.refl _ w4).setCell _ _ (.inl (by simp))
      have C5 := Lib.hid (C4.out.turn rz F4.out NE0.out (by have := C4.out.lo; have := LT0.out; omega) (by have := LT0.out; omega))
      have F5 : Hid ((w4.setCell ⟨fb, 3, none⟩ (.slice va fcode.length vc)).heap[fb]? = some (.cells #[.int .i64 fp, .int .i64 fr, .int .i64 far, .slice va fcode.length vc] 41 (0, 0))) := Lib.hid (by
        have := heap_setCell (o := 3) (v := .slice va fcode.length vc) F4.out
        simpa using this)
      have O5 := Lib.hid (CO4.out.odd (ts := [112, 3]) rz (fun k hk => .inr (by simp at hk; subst hk; exact ⟨_, _, F4.out, by decide⟩)) (by simp) (by simp))
      clear rz C4 F4 CO4 g3 c0 c1 f0 f1 f2 f3' NE0 LT0
      generalize w4.setCell ⟨fb, 3, none⟩ (.slice va fcode.length vc) = wz at *
      have r6 := (Fr.refl no wz).alloc (.cells #[.int .i64 fp, .int .i64 fr, .int .i64 far, .slice va fcode.length vc] 41)
      have C6 := Lib.hid (C5.out.fn r6)
      have O6 := Lib.hid (O5.out.fn r6)
      have R6 := Lib.hid (reads_four wz (.int .i64 fp) (.int .i64 fr) (.int .i64 far) (.slice va fcode.length vc) 41)
      obtain ⟨t0, t1⟩ := cells2 C5.out.obj
      obtain ⟨f0, f1, f2, f3⟩ := cells4 F5.out
      clear r6 C5 O5
      go_wp2_with (at_builtin; (refine wpList_append_at rfl (.tmp 27) _ 23 rfl w.heap.size 41 (.agg zeroFn) 4 48 Tryz.underlying23 Tryz.infoFunc3 rfl (by decide) _ l.length _ rfl C6.out.fns.row 1 _ R6.out (four_one _ _ _ _ _ _ ()) (by unfold maxLen; omega) (by omega) C6.out.fr.size ?_); intro ga gc wg ho hg hb; have C7 := Lib.hid (C6.out.app (p := ((⟨fp, fr, far, fcode⟩ : Fx), va, vc)) O6.out hg ho); have ob := ((Fr.refl (fun k => (Value.slice oa l.length oc).ownBlock = some k) _).grown hg (fun k hk => .inl hk)).heap C6.out.obj (row_block_ne C6.out.fns.row C6.out.obj (by decide)); have x1 := cell_of_heap (o := 1) ob rfl; have y1 := frozen_of_heap (o := 1) ob; clear ho hg hb ob)
      go_roundw
      case rel => exact ⟨l ++ [((⟨fp, fr, far, fcode⟩ : Fx), va, vc)], _, _, by simp; omega, by rw [List.length_append]; go_num, Lib.hid (by rw [List.map_append, List.length_append]; exact HSN.out), C7⟩
      case measure => first | (simp [intOf]; done) | (simp [intOf]; omega)
    · have hlk : l.length = m.f.length := by omega
      have HLK := Lib.hid hlk
      have HE : Hid (l.map Prod.fst = m.f) := Lib.hid (by rw [hpre.out, hlk, List.take_length])
      obtain ⟨t0, t1⟩ := cells2 C0.out.obj
      obtain ⟨s0, s1⟩ := cells2 C0.out.res
      have g0 := frozen_of_heap (o := 0) C0.out.res
      have g1 := frozen_of_heap (o := 1) C0.out.res
      clear hlk hpre
      go_wp2_with fail
      have rr : Fr (only [w.heap.size + 1]) wr ((wr.setCell ⟨w.heap.size + 1, 0, none⟩ (.slice xa m.d.length xc)).setCell ⟨w.heap.size + 1, 1, none⟩ (.slice oa l.length oc)) := ((Fr.refl _ wr).setCell _ _ (.inl (by simp))).setCell _ _ (.inl (by simp))
      have hh := heap_setCell (o := 1) (v := .slice oa l.length oc) (heap_setCell (o := 0) (v := .slice xa m.d.length xc) C0.out.res)
      have DD := owns_fr C0.out.data rr (fun k hk e => by simp at e; subst e; exact row_block_ne C0.out.data C0.out.res (by decide) hk)
      have FF := C0.out.fns.odd rr (fun k hk => .inr (by simp at hk; subst hk; exact ⟨_, _, C0.out.res, by decide⟩))
      refine bodyPost_ret (results_one rfl rfl (load_mod _ _ (.slice xa m.d.length xc) (.slice oa l.length oc) (by simpa using hh))) rfl ?_
      refine ⟨xa, xc, oa, oc, by rw [HLK.out], ?_, C0.out.fr.trans' rr (fun k hk _ => by simp at hk; omega)⟩
      exact ⟨DD, l, HE.out, by rw [← HLK.out]; exact FF⟩

end Go.Proofs.YtihnkijeefkefaaGreat

/- The plain law of modules' bytes: Get is Put's inverse, and Put is Get's. -/
namespace Go.Proofs.YtihnkijeefkefaaGreat

end Go.Proofs.YtihnkijeefkefaaGreat

/- The plain law of modules' bytes: what is read is put as it was; where a fault is. -/
namespace Go.Proofs.YtihnkijeefkefaaGreat

/-! ### backward -/
theorem take_back {bs : List Nat} {n : Nat} {s : Pl} (ha : s.at_ ≤ bs.length) (h : (takeP bs n s).2.er = 0) : s.er = 0 ∧ (takeP bs n s).1.length = n ∧ (takeP bs n s).2 = ⟨s.at_ + n, 0, s.fa⟩ ∧ bs.take (s.at_ + n) = bs.take s.at_ ++ (takeP bs n s).1 ∧ s.at_ + n ≤ bs.length := by
  unfold takeP at h ⊢
  split at h
  · rename_i h0; exact (h0 h).elim
  · rename_i h0
    have h0' : s.er = 0 := by simpa using h0
    rw [if_neg h0]
    split at h
    · exfalso
      unfold failP at h
      rw [if_pos h0'] at h
      exact absurd h (by show ¬ (4 : Int) = 0; decide)
    · rename_i h1
      rw [if_neg h1]
      exact ⟨h0', by simp; omega, by rw [h0'], by rw [List.take_add], by omega⟩
theorem failP_er {s : Pl} {e a : Int} (he : e ≠ 0) : (failP s e a).er ≠ 0 := by
  unfold failP
  split
  · exact he
  · rename_i h; exact h
theorem block_back {bs : List Nat} (hb : ∀ b ∈ bs, b < 256) {most : Nat} {s : Pl} (ha : s.at_ ≤ bs.length) (h : (blockP bs most s).2.er = 0) :
    s.er = 0 ∧ (blockP bs most s).1.length ≤ most ∧ (blockP bs most s).1.length < 65536 ∧ (blockP bs most s).2 = ⟨s.at_ + 2 + (blockP bs most s).1.length, 0, s.fa⟩ ∧
      bs.take (s.at_ + 2 + (blockP bs most s).1.length) = bs.take s.at_ ++ (le (blockP bs most s).1.length 2 ++ (blockP bs most s).1) ∧ s.at_ + 2 + (blockP bs most s).1.length ≤ bs.length := by
  have hm := blockP_len bs most s ha
  have hl2 := takeP_lt hb 2 s
  unfold blockP at *
  obtain ⟨h1, h2, h3, h4, h5⟩ := take_back (blockS_at bs most s ha) h
  have hS : blockS bs most s = (takeP bs 2 s).2 := by
    unfold blockS at h1 ⊢
    split
    · rename_i hc; rw [if_pos hc] at h1; exact (failP_er (by decide) h1).elim
    · rfl
  rw [hS] at h1
  obtain ⟨g1, g2, g3, g4, g5⟩ := take_back ha h1
  rw [hS] at h3 h4 h5
  rw [hS] at h2 hm ⊢
  rw [g3] at h3 h4 h5 ⊢
  rw [g3] at h2 hm
  dsimp only at *
  have hu := unle_two _ hl2 (by omega)
  have hle : le (unle (takeP bs 2 s).1) 2 = (takeP bs 2 s).1 := by have := le_unle _ hl2; rwa [g2] at this
  rw [h2]
  refine ⟨g1, by omega, hu, h3, ?_, h5⟩
  rw [h4, g4, hle, List.append_assoc]
end Go.Proofs.YtihnkijeefkefaaGreat

/- The plain law of modules' bytes: Get's answer, backward; faults lie within. -/
namespace Go.Proofs.YtihnkijeefkefaaGreat

def InP (bs : List Nat) (s : Pl) : Prop := s.er ≠ 0 → 0 ≤ s.fa ∧ s.fa ≤ bs.length
theorem InP.fail {bs : List Nat} {s : Pl} (h : InP bs s) {e a : Int} (h0 : 0 ≤ a) (h1 : a ≤ bs.length) : InP bs (failP s e a) := by
  unfold failP
  split
  · exact fun _ => ⟨h0, h1⟩
  · exact h
theorem InP.take {bs : List Nat} {s : Pl} (h : InP bs s) (n : Nat) : InP bs (takeP bs n s).2 := by
  unfold takeP
  split
  · exact h
  · split
    · exact h.fail (by omega) (by omega)
    · exact fun e => h e
theorem InP.block {bs : List Nat} {s : Pl} (h : InP bs s) (ha : s.at_ ≤ bs.length) (most : Nat) : InP bs (blockP bs most s).2 := by
  unfold blockP
  refine InP.take ?_ _
  unfold blockS
  split
  · exact (h.take 2).fail (by omega) (by omega)
  · exact h.take 2
theorem InP.func {bs : List Nat} (hb : ∀ b ∈ bs, b < 256) {s : Pl} (h : InP bs s) (ha : s.at_ ≤ bs.length) : InP bs (functionP bs s).2 := by
  have aA : (fnA bs s).2.at_ ≤ bs.length := takeP_le ha
  have aB : (fnBb bs s).2.at_ ≤ bs.length := takeP_le aA
  have aC : (fnC bs s).2.at_ ≤ bs.length := takeP_le aB
  have hD : InP bs (fnD bs s).2 := (((h.take 1).take 1).take 2).block aC 4096
  unfold functionP
  split
  · exact hD
  · rename_i h0
    dsimp only
    split
    · obtain ⟨-, -, -, d4, -, d6⟩ := block_back (most := 4096) hb aC (Classical.not_not.1 h0)
      change (fnD bs s).2 = ⟨_ + 2 + (fnD bs s).1.length, 0, _⟩ at d4
      change _ + 2 + (fnD bs s).1.length ≤ _ at d6
      have e : (fnD bs s).2.at_ = (fnC bs s).2.at_ + 2 + (fnD bs s).1.length := by rw [d4]
      exact hD.fail (by omega) (by omega)
    · exact hD
end Go.Proofs.YtihnkijeefkefaaGreat

/- law08's bytes, echo, fails, awake. -/
namespace Go.Proofs.YtihnkijeefkefaaGreat
open Go.RowKit

attribute [local go_sem] Program.isFuncB Program.isSliceB

variable {w w' w'' w0 : World}

def echoI : List Ix := [⟨30, 0, 0, 0, 0, []⟩, ⟨32, 0, 0, 0, 0, []⟩]
def echoF (p r : Int) : Fx := ⟨p, r, 0, echoI⟩
def echoX (p r : Int) : Mx := ⟨[], [echoF p r]⟩
/-- the echo module's blocks -/
structure EchoAt (w : World) (b : Nat) (p r : Int) : Prop where
  code : w.heap[b]? = some (.cells #[.int .i64 30, .int .i64 0, .int .i64 0, .int .i64 0, .int .i64 0, .slice none 0 0, .int .i64 32, .int .i64 0, .int .i64 0, .int .i64 0, .int .i64 0, .slice none 0 0] 112 (0, 0))
  fn : w.heap[b + 1]? = some (.cells #[.int .i64 p, .int .i64 r, .int .i64 0, .slice (some ⟨b, 0, none⟩) 2 2] 41 (0, 0))
theorem EchoAt.mod {b : Nat} {p r : Int} (h : EchoAt w b p r) : ModIn w (echoX p r) none 0 (some ⟨b + 1, 0, none⟩) := by
  refine ⟨.inl ⟨rfl, rfl, rfl⟩, fun k hk => ?_⟩
  obtain rfl : k = 0 := by simp [echoX] at hk; exact hk
  refine ⟨b + 1, 0, some ⟨b, 0, none⟩, 2, rfl, ⟨fun j v hj => ?_, fun k hk => ?_⟩⟩
  · have hj4 : j < 4 := (List.getElem?_eq_some_iff.1 hj).1
    refine cell_of_heap h.fn ?_
    rw [show 0 + 0 * 4 + j = j from by omega]
    rw [← hj]
    simp [echoX, echoF, Fx.cells, echoI]
  · have hk2 : k < 2 := by simpa [echoX, echoF, echoI] using hk
    refine ⟨b, 0, .slice none 0 0, rfl, ⟨fun j v hj => ?_, ?_⟩⟩
    · have hj6 : j < 6 := (List.getElem?_eq_some_iff.1 hj).1
      refine cell_of_heap h.code ?_
      rw [← hj]
      obtain rfl | rfl : k = 0 ∨ k = 1 := by omega
      · obtain rfl | rfl | rfl | rfl | rfl | rfl : j = 0 ∨ j = 1 ∨ j = 2 ∨ j = 3 ∨ j = 4 ∨ j = 5 := by omega
        all_goals rfl
      · obtain rfl | rfl | rfl | rfl | rfl | rfl : j = 0 ∨ j = 1 ∨ j = 2 ∨ j = 3 ∨ j = 4 ∨ j = 5 := by omega
        all_goals rfl
    · obtain rfl | rfl : k = 0 ∨ k = 1 := by omega
      · exact .inl ⟨rfl, rfl, rfl⟩
      · exact .inl ⟨rfl, rfl, rfl⟩
theorem EchoAt.fr {b : Nat} {p r : Int} (h : EchoAt w b p r) (f : Fr no w w') : EchoAt w' b p r := ⟨f.heap h.code (by simp), f.heap h.fn (by simp)⟩

end Go.Proofs.YtihnkijeefkefaaGreat

/- ModuleKnown's walk. -/
namespace Go.Proofs.YtihnkijeefkefaaGreat
open Go.RowKit

attribute [local go_sem] Program.isFuncB Program.isSliceB

variable {w w' w'' w0 : World}

end Go.Proofs.YtihnkijeefkefaaGreat

/- A module that was handed in, opened; kit's LongModule. -/
namespace Go.Proofs.YtihnkijeefkefaaGreat
open Go.RowKit

attribute [local go_sem] Program.isFuncB Program.isSliceB

variable {w w' w'' w0 : World}

theorem len_four : ∀ (es : List Value), es.length = 4 → ∃ a b c d, es = [a, b, c, d]
  | [a, b, c, d], _ => ⟨a, b, c, d, rfl⟩
/-- numbers that are some, of lengths that are some -/
structure Mx.Raw (m : Mx) : Prop where
  data : m.d.length ≤ maxLen
  fns : m.f.length ≤ maxLen
  code : ∀ f ∈ m.f, f.c.length ≤ maxLen
  args : ∀ f ∈ m.f, ∀ i ∈ f.c, i.l.length ≤ maxLen
  n : ∀ f ∈ m.f, ∀ i ∈ f.c, rng i.N
  lt : ∀ b ∈ m.d, b < 256
def Few (f : Fx) : Prop := f.c.length ≤ 60 ∧ ∀ i ∈ f.c, i.l.length ≤ 20
def LongM (w : World) (m : Mx) (e : Ending) (w' : World) : Prop := ∃ q : Bool, e = .returned (.bool q) ∧ (q = false → m.d.length ≤ 300 ∧ m.f.length ≤ 6 ∧ ∀ f ∈ m.f, Few f) ∧ Fr no w w'
theorem LongM.of {m : Mx} (q : Bool) (hq : q = false → m.d.length ≤ 300 ∧ m.f.length ≤ 6 ∧ ∀ f ∈ m.f, Few f) (r : Fr no w w') : LongM w m (.returned (.bool q)) w' := ⟨q, rfl, hq, r⟩
theorem LongM.small {m : Mx} (hr : m.Raw) (h : m.d.length ≤ 300 ∧ m.f.length ≤ 6 ∧ ∀ f ∈ m.f, Few f) : m.Small :=
  ⟨by omega, by omega, fun f hf => ⟨by have := (h.2.2 f hf).1; omega, fun i hi => by have := (h.2.2 f hf).2 i hi; omega⟩, hr.lt⟩

set_option maxRecDepth 100000 in
set_option maxHeartbeats 8000000 in
theorem longm_ok (w : World) (m : Mx) (da : Option Addr) (dc : Nat) (fa : Option Addr) (fc : Nat) (hm : ModIn w m da dc fa) (hr : m.Raw) :
    Calls Tryz.prog 12 #[.agg #[.slice da m.d.length dc, .slice fa m.f.length fc]] w (LongM w m) := by
  obtain ⟨ds, fs⟩ := m
  obtain ⟨q1, q2, q3, q4, -, -⟩ := hr
  dsimp only at q1 q2 q3 q4 ⊢
  unfold maxLen at q1 q2 q3 q4
  have HC := Lib.hid q3
  have HAR := Lib.hid q4
  have HI := Lib.hid (modObj w (.slice da ds.length dc) (.slice fa fs.length fc))
  have r0 := (Fr.refl no w).alloc (.cells #[.slice da ds.length dc, .slice fa fs.length fc] 25)
  have R0 := Lib.hid r0
  have HF := Lib.hid (hm.fns.fr r0)
  clear q3 q4 r0 hm
  go_enter Tryz.func12, Tryz.ntmps12
  obtain ⟨c0, c1⟩ := cells2 HI.out
  by_cases h1 : 300 < ds.length
  · have h1' : (300 : Int) < ds.length := by omega
    go_wp2_with fail
    go_ret
    exact LongM.of true (fun h => by cases h) R0.out
  have h1' : ¬ (300 : Int) < ds.length := by omega
  by_cases h2 : 6 < fs.length
  · have h2' : (6 : Int) < fs.length := by omega
    go_wp2_with fail
    go_ret
    exact LongM.of true (fun h => by cases h) R0.out
  have h2' : ¬ (6 : Int) < fs.length := by omega
  go_wp2_with fail
  generalize w.alloc (.cells #[.slice da ds.length dc, .slice fa fs.length fc] 25) = wz at *
  go_loopw [3] (fun x wr => ∃ k : Nat, k ≤ fs.length ∧ x = .int .i64 k ∧ Hid (∀ f ∈ fs.take k, Few f) ∧ wr = wz) (fun x _ => (fs.length - intOf x).toNat)
  case atStart => exact ⟨0, by omega, rfl, Lib.hid (by simp), rfl⟩
  case round =>
    obtain ⟨k, hk, rfl, hpre, rfl⟩ := hrel
    by_cases hks : k < fs.length
    · have hks' : (k : Int) < fs.length := by omega
      obtain ⟨b, of, ca, cc, rfl, hi⟩ := HF.out k hks
      have d3 := hi.four.2.2.2
      have hcl := HC.out _ (List.getElem_mem hks)
      have HCI := Lib.hid hi.code
      have HA2 := Lib.hid (HAR.out _ (List.getElem_mem hks))
      have HN : Hid (Few fs[k] → ∀ f ∈ fs.take (k + 1), Few f) := Lib.hid (fun h f hf => by
        rw [List.take_succ_eq_append_getElem hks, List.mem_append, List.mem_singleton] at hf
        rcases hf with hf | rfl
        · exact hpre.out f hf
        · exact h)
      have HFW : Hid (Few fs[k] ↔ fs[k].c.length ≤ 60 ∧ ∀ i ∈ fs[k].c, i.l.length ≤ 20) := Lib.hid Iff.rfl
      generalize Few fs[k] = few at *
      generalize fs[k].c = is at *
      clear hi
      by_cases h3 : 60 < is.length
      · have h3' : (60 : Int) < is.length := by omega
        go_wp2_with fail
        go_ret
        exact LongM.of true (fun h => by cases h) R0.out
      have h3' : ¬ (60 : Int) < is.length := by omega
      obtain ⟨wy, hwy⟩ : ∃ x, x = wr := ⟨_, rfl⟩
      subst hwy
      go_wp2_with fail
      go_loopw [4] (fun x wr => ∃ j : Nat, j ≤ is.length ∧ x = .int .i64 j ∧ Hid (∀ i ∈ is.take j, i.l.length ≤ 20) ∧ wr = wy) (fun x _ => (is.length - intOf x).toNat)
      case atStart => exact ⟨0, by omega, rfl, Lib.hid (by simp), rfl⟩
      case round =>
        obtain ⟨j, hj, rfl, hp2, rfl⟩ := hrel
        by_cases hjs : j < is.length
        · have hjs' : (j : Int) < is.length := by omega
          obtain ⟨b2, of2, u, rfl, hi⟩ := HCI.out j hjs
          obtain ⟨ua, uc, rfl⟩ := hi.args.shape
          have c5 := hi.six.2.2.2.2.2
          have hal := HA2.out is[j] (List.getElem_mem _)
          have HN2 : Hid (is[j].l.length ≤ 20 → ∀ i ∈ is.take (j + 1), i.l.length ≤ 20) := Lib.hid (fun h i hi => by
            rw [List.take_succ_eq_append_getElem hjs, List.mem_append, List.mem_singleton] at hi
            rcases hi with hi | rfl
            · exact hp2.out i hi
            · exact h)
          generalize is[j].l.length = al at *
          clear hi
          by_cases h20 : al ≤ 20
          · have h20' : ¬ (20 : Int) < al := by omega
            have HN3 := Lib.hid (HN2.out h20)
            go_wp2_with fail
            go_roundw
            case rel => exact ⟨j + 1, by omega, by go_num, HN3, by trivial⟩
            case measure => first | (simp [intOf]; done) | (simp [intOf]; omega)
          · have h20' : (20 : Int) < al := by omega
            go_wp2_with fail
            go_ret
            exact LongM.of true (fun h => by cases h) R0.out
        · obtain rfl : j = is.length := by omega
          have HP : Hid few := Lib.hid (HFW.out.2 ⟨by omega, by have := hp2.out; rwa [List.take_length] at this⟩)
          have HP2 := Lib.hid (HN.out HP.out)
          go_wp2_with fail
          go_roundw
          case rel => exact ⟨k + 1, by omega, by go_num, HP2, by trivial⟩
          case measure => first | (simp [intOf]; done) | (simp [intOf]; omega)
    · obtain rfl : k = fs.length := by omega
      have HP := hpre.out
      rw [List.take_length] at HP
      have HPH := Lib.hid HP
      clear HP hpre
      go_wp2_with fail
      go_ret
      exact LongM.of false (fun _ => ⟨by show ds.length ≤ 300; omega, by show fs.length ≤ 6; omega, HPH.out⟩) R0.out

end Go.Proofs.YtihnkijeefkefaaGreat

/- twinshaftref08: function, Check. -/
namespace Go.Proofs.YtihnkijeefkefaaGreat
open Go.RowKit

attribute [local go_sem] Program.isFuncB Program.isSliceB

variable {w w' w'' w0 : World}

end Go.Proofs.YtihnkijeefkefaaGreat

import Derived.Test.YtihnkijeefkefaaGreatMB
import Derived.Test.YtihnkijeefkefaaGreatMA
import Derived.Test.YtihnkijeefkefaaGreatLE
set_option linter.unusedSimpArgs false
set_option linter.unusedVariables false
set_option linter.unusedSectionVars false
set_option linter.unnecessarySimpa false
set_option maxRecDepth 100000
/- kit's CopyModule. -/
namespace Go.Proofs.YtihnkijeefkefaaGreat
open Go.RowKit

attribute [local go_sem] Program.isFuncB Program.isSliceB

variable {w w' w'' w0 : World}

theorem CodeOwn.base {base base' : Nat} {v : Value} {is : List Ix} (h : CodeOwn w base v is) (hb : base' ≤ base) : CodeOwn w base' v is := by
  obtain ⟨l, e, h3, h4⟩ := h
  exact ⟨l, e, owns_base h3 (fun k hk => Nat.le_trans hb (h3.lt k hk).1), fun p hp => owns_base (h4 p hp) (fun k hk => Nat.le_trans hb ((h4 p hp).lt k hk).1)⟩

/-- instructions in memory of their own -/
theorem copycode_own (w : World) (sa : Option Addr) (c : Nat) (is : List Ix) (hin : CodeIn w sa is) (hlen : is.length ≤ 100000) (hargs : ∀ i ∈ is, i.l.length ≤ 100000) :
    Calls Tryz.prog 112 #[.slice sa is.length c] w fun e w' => ∃ a c', e = .returned (.slice a is.length c') ∧ CodeOwn w' w.heap.size (.slice a is.length c') is ∧ Fr no w w' := by
  have HIN := Lib.hid hin
  have HAR := Lib.hid hargs
  clear hin hargs
  go_enter Tryz.func112, Tryz.ntmps112
  go_wp2_with fail
  go_loopw [3, 4] (fun x y wr => ∃ l : List (Ix × Value), l.length ≤ is.length ∧ y = .int .i64 l.length ∧ Hid (l.map Prod.fst = is.take l.length) ∧ Hid (CC w wr x l)) (fun _ y _ => (is.length - intOf y).toNat)
  case atStart => exact ⟨[], by simp, rfl, Lib.hid rfl, Lib.hid ⟨Fr.refl _ _, World.ownsRow_nil _ _ _ _, fun p hp => (by cases hp)⟩⟩
  case round =>
    obtain ⟨l, hk, rfl, hpre, hcc⟩ := hrel
    obtain ⟨xa, xc, rfl⟩ := owns_shape hcc.out.out
    by_cases hks : l.length < is.length
    · have hks' : (l.length : Int) < is.length := by omega
      obtain ⟨b, of, u, rfl, hi⟩ := HIN.out.fr hcc.out.fr l.length hks
      obtain ⟨ua, uc, rfl⟩ := hi.args.shape
      obtain ⟨c0, c1, c2, c3, c4, c5⟩ := hi.six
      obtain ⟨ix, hix⟩ : ∃ i, i = is[l.length] := ⟨_, rfl⟩
      have HSN : Hid (l.map Prod.fst ++ [ix] = is.take (l.length + 1)) := Lib.hid (by rw [List.take_succ_eq_append_getElem hks, hpre.out, hix])
      have HPP := Lib.hid (copyins_ok wr ix.o ix.A ix.B ix.C ix.N _ ix.l (by rw [hix]; exact hi.args) (by rw [hix]; exact HAR.out _ (List.getElem_mem hks)))
      rw [← hix] at c0 c1 c2 c3 c4 c5 HPP
      clear hi hix
      obtain ⟨io, iA, iB, iC, iN, il⟩ := ix
      dsimp only at c0 c1 c2 c3 c4 c5 HPP
      unfold insV at HPP
      go_wp2_with fail
      refine HPP.out.mono ?_
      rintro e w5 ⟨v, rfl, hv, r5⟩
      obtain ⟨va, vc, rfl⟩ := owns_shape hv
      have r6 := r5.alloc (.cells #[.int .i64 io, .int .i64 iA, .int .i64 iB, .int .i64 iC, .int .i64 iN, .slice va il.length vc] 112)
      have HC6 := Lib.hid (hcc.out.to r6)
      have HV6 := Lib.hid (owns_base (base' := w.heap.size) (owns_fr hv ((Fr.refl no w5).alloc (.cells #[.int .i64 io, .int .i64 iA, .int .i64 iB, .int .i64 iC, .int .i64 iN, .slice va il.length vc] 112)) (by simp)) (fun k hk => by have := (hv.lt k hk).1; have := hcc.out.fr.size; omega))
      have HR6 := Lib.hid (reads_six w5 (.int .i64 io) (.int .i64 iA) (.int .i64 iB) (.int .i64 iC) (.int .i64 iN) (.slice va il.length vc) 112)
      clear r5 r6 hv c0 c1 c2 c3 c4 c5 hcc
      go_wp2_with (at_builtin; (refine wpList_append_at rfl (.tmp 11) _ 39 rfl w.heap.size 112 (.agg zeroIns) 6 64 Tryz.underlying39 Tryz.infoIns3 rfl (by decide) _ l.length _ rfl HC6.out.out 1 _ HR6.out (six_one _ _ _ _ _ _ _ _ ()) (by unfold maxLen; omega) (by omega) HC6.out.fr.size ?_); intro gd ge w7 ho hg hb)
      have HC7 := Lib.hid (HC6.out.app (i := ⟨io, iA, iB, iC, iN, il⟩) (u := .slice va il.length vc) HV6.out ho hg)
      clear ho hg hb
      go_roundw
      case rel => exact ⟨l ++ [(⟨io, iA, iB, iC, iN, il⟩, .slice va il.length vc)], by simp; omega, by rw [List.length_append]; go_num, Lib.hid (by rw [List.map_append, List.length_append]; exact HSN.out), HC7⟩
      case measure => first | (simp [intOf]; done) | (simp [intOf]; omega)
    · have hlk : l.length = is.length := by omega
      have HLK := Lib.hid hlk
      have HQ : Hid (CodeOwn wr w.heap.size (.slice xa is.length xc) is) := Lib.hid (by
        refine ⟨l, by rw [hpre.out, hlk, List.take_length], ?_, hcc.out.args⟩
        rw [← hlk]
        exact hcc.out.out)
      have R := Lib.hid hcc.out.fr
      clear hcc hpre hlk
      go_wp2_with fail
      go_ret
      exact ⟨xa, xc, by rw [← HLK.out]; rfl, HQ.out, R.out⟩


structure CM (w wr : World) (m : Mx) (tb : Nat) (box : Array Value) (xa : Option Addr) (xc : Nat) (oa : Option Addr) (oc : Nat) (l : List FxV) : Prop where
  obj : wr.heap[tb]? = some (.cells #[.slice xa m.d.length xc, .slice oa l.length oc] 25 (0, 0))
  box : wr.heap[w.heap.size]? = some (.cells box 25 (0, 0))
  res : wr.heap[w.heap.size + 1]? = some (.cells #[.slice none 0 0, .slice none 0 0] 25 (0, 0))
  data : wr.ownsRow w.heap.size 5 1 (.slice xa m.d.length xc) m.d.length (u8s m.d)
  fns : FnsOwn wr w.heap.size (.slice oa l.length oc) l
  fr : Fr no w wr
  lo : w.heap.size + 1 < tb
theorem CM.fn {wr wr' : World} {m : Mx} {tb : Nat} {box : Array Value} {xa oa : Option Addr} {xc oc : Nat} {l : List FxV} (h : CM w wr m tb box xa xc oa oc l) (r : Fr no wr wr') : CM w wr' m tb box xa xc oa oc l :=
  ⟨r.heap h.obj (by simp), r.heap h.box (by simp), r.heap h.res (by simp), owns_fr h.data r (by simp), h.fns.fn r, h.fr.trans r, h.lo⟩
/-- a block of the call's own, of a function, has turned -/
theorem CM.turn {wr wr' : World} {m : Mx} {tb fb : Nat} {box cs : Array Value} {xa oa : Option Addr} {xc oc : Nat} {l : List FxV} (h : CM w wr m tb box xa xc oa oc l) (r : Fr (only [fb]) wr wr') (hf : wr.heap[fb]? = some (.cells cs 41 (0, 0))) (h1 : ∀ k, (Value.slice oa l.length oc).ownBlock = some k → k ≠ fb) (hb : w.heap.size + 1 < fb) (hn : fb ≠ tb) : CM w wr' m tb box xa xc oa oc l := by
  refine ⟨r.heap h.obj (by simp; omega), r.heap h.box (by simp; omega), r.heap h.res (by simp; omega), owns_fr h.data r (fun k hk e => ?_), ⟨owns_fr h.fns.row r (fun k hk e => h1 k hk (by simpa using e)), fun p hp => (h.fns.code p hp).odd (ts := [112, 3]) r (fun k hk => .inr ?_) (by simp) (by simp)⟩, h.fr.trans' r (fun k hk _ => by simp at hk; omega), h.lo⟩
  · simp at e; subst e; exact row_block_ne h.data hf (by decide) hk
  · simp at hk; subst hk; exact ⟨_, _, hf, by decide⟩
theorem CM.app {wr : World} {m : Mx} {tb : Nat} {box : Array Value} {xa oa ga : Option Addr} {xc oc gc : Nat} {l : List FxV} {p : FxV} (h : CM w wr m tb box xa xc oa oc l) (hc : CodeOwn wr w.heap.size p.val p.1.c) (hg : wr.grownBy w' (Value.slice oa l.length oc).ownBlock) (ho : w'.ownsRow w.heap.size 41 4 (.slice ga (l.length + 1) gc) (l.length + 1) (fCells l ++ p.1.cells p.val)) : CM w (w'.setCell ⟨tb, 1, none⟩ (.slice ga (l.length + 1) gc)) m tb box xa xc ga gc (l ++ [p]) := by
  have q : Fr (fun k => (Value.slice oa l.length oc).ownBlock = some k) wr w' := (Fr.refl _ wr).grown hg (fun k hk => .inl hk)
  have o1 := q.heap h.obj (row_block_ne h.fns.row h.obj (by decide))
  have b1 := q.heap h.box (row_block_ne h.fns.row h.box (by decide))
  have s1 := q.heap h.res (row_block_ne h.fns.row h.res (by decide))
  have d1 := owns_fr h.data q (fun k hk e => rows_ne h.data h.fns.row (by decide) k hk e)
  have f1 := h.fns.app hc hg ho
  have rs : Fr (only [tb]) w' (w'.setCell ⟨tb, 1, none⟩ (.slice ga (l.length + 1) gc)) := (Fr.refl _ w').setCell _ _ (.inl (by simp))
  have lo := h.lo
  refine ⟨?_, rs.heap b1 (by simp; omega), rs.heap s1 (by simp; omega), owns_fr d1 rs (fun k hk e => by simp at e; subst e; exact row_block_ne d1 o1 (by decide) hk), by rw [List.length_append]; exact f1.odd rs (fun k hk => .inr (by simp at hk; subst hk; exact ⟨_, _, o1, by decide⟩)), (h.fr.trans' q (fun k hk _ => (h.fns.row.lt k hk).1)).trans' rs (fun k hk _ => by simp at hk; omega), h.lo⟩
  have := heap_setCell (o := 1) (v := .slice ga (l.length + 1) gc) o1
  simpa using this
theorem CM.modIn {wr : World} {m : Mx} {tb : Nat} {box : Array Value} {xa oa : Option Addr} {xc oc : Nat} {l : List FxV} (h : CM w wr m tb box xa xc oa oc l) (he : l.map Prod.fst = m.f) : ModIn wr m xa xc oa := by
  obtain ⟨a, c, h1, h2⟩ := h.fns.read
  cases h1
  exact ⟨owns_reads h.data, he ▸ h2⟩
/-- a module of the call's own -/
structure ModOwn (w : World) (base : Nat) (m : Mx) (xa : Option Addr) (xc : Nat) (oa : Option Addr) (oc : Nat) : Prop where
  data : w.ownsRow base 5 1 (.slice xa m.d.length xc) m.d.length (u8s m.d)
  fns : ∃ l : List FxV, l.map Prod.fst = m.f ∧ FnsOwn w base (.slice oa m.f.length oc) l
theorem ModOwn.odd {S : Nat → Prop} {base : Nat} {m : Mx} {xa oa : Option Addr} {xc oc : Nat} (h : ModOwn w base m xa xc oa oc) (r : Fr S w w') (ho : Odd w S [5, 41, 112, 3]) : ModOwn w' base m xa xc oa oc := by
  obtain ⟨h1, l, h2, h3⟩ := h
  refine ⟨owns_odd h1 r ho (by simp), l, h2, h3.odd r (fun k hk => ?_)⟩
  rcases ho k hk with h | ⟨cs, t, e1, e2⟩
  · exact .inl h
  · exact .inr ⟨cs, t, e1, fun e => e2 (List.mem_cons_of_mem _ e)⟩
theorem ModOwn.base {base base' : Nat} {m : Mx} {xa oa : Option Addr} {xc oc : Nat} (h : ModOwn w base m xa xc oa oc) (hb : base' ≤ base) : ModOwn w base' m xa xc oa oc := by
  obtain ⟨h1, l, h2, h3⟩ := h
  exact ⟨owns_base h1 (fun k hk => Nat.le_trans hb (h1.lt k hk).1), l, h2, ⟨owns_base h3.row (fun k hk => Nat.le_trans hb (h3.row.lt k hk).1), fun p hp => (h3.code p hp).base hb⟩⟩
theorem ModOwn.modIn {base : Nat} {m : Mx} {xa oa : Option Addr} {xc oc : Nat} (h : ModOwn w base m xa xc oa oc) : ModIn w m xa xc oa := by
  obtain ⟨h1, l, h2, h3⟩ := h
  obtain ⟨a, c, h4, h5⟩ := h3.read
  injection h4 with e1 e2 e3
  subst e1
  exact ⟨owns_reads h1, h2 ▸ h5⟩
theorem results_one {P : Program} {fn : Func} {tmps : Array Value} {w : World} {d1 : Tmp} {t1 : TypeId} {a1 : Addr} {v1 : Value} (hr : fn.results = #[.cell d1 t1])
    (h1 : tmps.getD d1 undef = .pointer (some a1)) (l1 : (loadVar t1 a1).run P w = .ok v1 w) : (results fn tmps).run P w = .ok v1 w := by
  have h1' : tmps[d1]?.getD undef = .pointer (some a1) := by rw [← h1]; simp [Array.getD_eq_getD_getElem?]
  simp only [results, hr]
  simp [h1', asAddr, l1]

set_option maxRecDepth 100000 in
set_option maxHeartbeats 16000000 in
theorem copymod_ok (w : World) (m : Mx) (da : Option Addr) (dc : Nat) (fa : Option Addr) (fc : Nat) (hm : ModIn w m da dc fa) (hs : m.Small) :
    Calls Tryz.prog 46 #[.agg #[.slice da m.d.length dc, .slice fa m.f.length fc]] w fun e w' => ∃ a c a' c', e = .returned (.agg #[.slice a m.d.length c, .slice a' m.f.length c']) ∧ ModOwn w' w.heap.size m a c a' c' ∧ Fr no w w' := by
  have HM := Lib.hid hm
  have HS := Lib.hid hs
  have hs1 := hs.data
  have hs2 := hs.fns
  have r1 := (Fr.refl no w).alloc (.cells #[.slice da m.d.length dc, .slice fa m.f.length fc] 25)
  have r2 := r1.alloc (.cells #[.slice none 0 0, .slice none 0 0] 25)
  have q2 := (Fr.refl no (w.alloc (.cells #[.slice da m.d.length dc, .slice fa m.f.length fc] 25))).alloc (.cells #[.slice none 0 0, .slice none 0 0] 25)
  have B2 := Lib.hid (q2.heap (modObj w (.slice da m.d.length dc) (.slice fa m.f.length fc)) (by simp))
  have z2 := modObj (w.alloc (.cells #[.slice da m.d.length dc, .slice fa m.f.length fc] 25)) (.slice none 0 0) (.slice none 0 0)
  rw [World.size_alloc] at z2
  have Z2 := Lib.hid z2
  have R2 := Lib.hid r2
  have CB := Lib.hid (copybytes_ok _ _ m.d (hm.data.fr r2 (by simp)) (by omega))
  have S2 : Hid (((w.alloc (.cells #[.slice da m.d.length dc, .slice fa m.f.length fc] 25)).alloc (.cells #[.slice none 0 0, .slice none 0 0] 25)).heap.size = w.heap.size + 2) := Lib.hid (by rw [World.size_alloc, World.size_alloc])
  clear r1 r2 q2 z2 hm hs
  go_enter Tryz.func46, Tryz.ntmps46
  obtain ⟨c0, c1⟩ := cells2 B2.out
  go_wp2_with fail
  refine CB.out.mono ?_
  rintro e w3 ⟨x, rfl, hx, r3⟩
  obtain ⟨xa, xc, rfl⟩ := owns_shape hx
  have r4 := (Fr.refl no w3).alloc (.cells #[.slice xa m.d.length xc, .slice none 0 0] 25)
  obtain ⟨tb, htb⟩ : ∃ b, b = w3.heap.size := ⟨_, rfl⟩
  have C4 : Hid (CM w (w3.alloc (.cells #[.slice xa m.d.length xc, .slice none 0 0] 25)) m w3.heap.size #[.slice da m.d.length dc, .slice fa m.f.length fc] xa xc none 0 []) := Lib.hid (by
    have hsz := r3.size
    rw [S2.out] at hsz
    exact ⟨heap_new _ _, r4.heap (r3.heap B2.out (by simp)) (by simp), r4.heap (r3.heap Z2.out (by simp)) (by simp), owns_fr (owns_base hx (fun k hk => by have := (hx.lt k hk).1; rw [S2.out] at this; omega)) r4 (by simp), ⟨World.ownsRow_nil _ _ _ _, fun p hp => (by cases hp)⟩, R2.out.trans (r3.trans r4), by omega⟩)
  rw [← htb] at C4
  clear r3 r4 hx CB c0 c1 B2 Z2 S2 R2
  go_wp2_with fail
  try rw [← htb]
  clear htb
  go_loopw [4] (fun x wr => ∃ (l : List FxV) (oa : Option Addr) (oc : Nat), l.length ≤ m.f.length ∧ x = .int .i64 l.length ∧ Hid (l.map Prod.fst = m.f.take l.length) ∧ Hid (CM w wr m tb #[.slice da m.d.length dc, .slice fa m.f.length fc] xa xc oa oc l)) (fun x _ => (m.f.length - intOf x).toNat)
  case atStart => exact ⟨[], none, 0, by simp, rfl, Lib.hid rfl, C4⟩
  case round =>
    obtain ⟨l, oa, oc, hk, rfl, hpre, C0⟩ := hrel
    obtain ⟨c0, c1⟩ := cells2 C0.out.box
    by_cases hks : l.length < m.f.length
    · have hks' : (l.length : Int) < m.f.length := by omega
      have FI := HM.out.fns.fr C0.out.fr
      obtain ⟨b, of, ca, cc, rfl, hi⟩ := FI l.length hks
      obtain ⟨d0, d1, d2, d3⟩ := hi.four
      have hsm := HS.out.each _ (List.getElem_mem hks)
      obtain ⟨fx, hfx⟩ : ∃ i, i = m.f[l.length] := ⟨_, rfl⟩
      have HSN : Hid (l.map Prod.fst ++ [fx] = m.f.take (l.length + 1)) := Lib.hid (by rw [List.take_succ_eq_append_getElem hks, hpre.out, hfx])
      have CODE := hi.code
      rw [← hfx] at d0 d1 d2 d3 CODE hsm
      clear hi FI hfx
      obtain ⟨fp, fr, far, fcode⟩ := fx
      obtain ⟨hsm1, hsm2⟩ := hsm
      dsimp only at hsm1 hsm2 d0 d1 d2 d3 CODE
      have r1 := (Fr.refl no wr).alloc (.cells #[.int .i64 fp, .int .i64 fr, .int .i64 far, .slice ca fcode.length cc] 41)
      have C1 := Lib.hid (C0.out.fn r1)
      have F1 := Lib.hid (fnObj wr fp fr far (.slice ca fcode.length cc))
      have J1 := Lib.hid (copycode_own _ ca cc fcode (CODE.fr r1) (by omega) (fun i hi => by have := hsm2 i hi; omega))
      have SZ1 : Hid (w.heap.size ≤ (wr.alloc (.cells #[.int .i64 fp, .int .i64 fr, .int .i64 far, .slice ca fcode.length cc] 41)).heap.size) := Lib.hid C1.out.fr.size
      have LT0 : Hid (tb < wr.heap.size) := Lib.hid (Array.getElem?_eq_some_iff.1 C0.out.obj).1
      have NE0 : Hid (∀ k, (Value.slice oa l.length oc).ownBlock = some k → k ≠ wr.heap.size) := Lib.hid (fun k hk => by have := (C0.out.fns.row.lt k hk).2; omega)
      have f3 := frozen_of_heap (o := 3) F1.out
      obtain ⟨f0, f1, f2, f3'⟩ := cells4 F1.out
      clear r1 CODE hsm1 hsm2
      go_wp2_with fail
      refine J1.out.mono ?_
      rintro e w4 ⟨va, vc, rfl, hv, r4⟩
      have CO4 := Lib.hid (CodeOwn.base hv SZ1.out)
      have C4 := Lib.hid (C1.out.fn r4)
      have F4 := Lib.hid (r4.heap F1.out (by simp))
      obtain ⟨fb, hfb⟩ : ∃ b, b = wr.heap.size := ⟨_, rfl⟩
      rw [← hfb] at F4 NE0 LT0
      have g3 := frozen_of_heap (o := 3) F4.out
      clear hv r4 J1 C0 C1 F1 SZ1 c0 c1 d0 d1 d2 d3 f0 f1 f2 f3 f3'
      try rw [← hfb]
      clear hfb
      obtain ⟨c0, c1⟩ := cells2 C4.out.box
      obtain ⟨f0, f1, f2, f3'⟩ := cells4 F4.out
      go_upto_region 7 with fail
      have rz : Fr (only [fb]) w4 (w4.setCell ⟨fb, 3, none⟩ (.slice va fcode.length vc)) := (Fr.refl _ w4).setCell _ _ (.inl (by simp))
      have C5 := Lib.hid (C4.out.turn rz F4.out NE0.out (by have := C4.out.lo; have := LT0.out; omega) (by have := LT0.out; omega))
      have F5 : Hid ((w4.setCell ⟨fb, 3, none⟩ (.slice va fcode.length vc)).heap[fb]? = some (.cells #[.int .i64 fp, .int .i64 fr, .int .i64 far, .slice va fcode.length vc] 41 (0, 0))) := Lib.hid (by
        have := heap_setCell (o := 3) (v := .slice va fcode.length vc) F4.out
        simpa using this)
      have O5 := Lib.hid (CO4.out.odd (ts := [112, 3]) rz (fun k hk => .inr (by simp at hk; subst hk; exact ⟨_, _, F4.out, by decide⟩)) (by simp) (by simp))
      clear rz C4 F4 CO4 g3 c0 c1 f0 f1 f2 f3' NE0 LT0
      generalize w4.setCell ⟨fb, 3, none⟩ (.slice va fcode.length vc) = wz at *
      have r6 := (Fr.refl no wz).alloc (.cells #[.int .i64 fp, .int .i64 fr, .int .i64 far, .slice va fcode.length vc] 41)
      have C6 := Lib.hid (C5.out.fn r6)
      have O6 := Lib.hid (O5.out.fn r6)
      have R6 := Lib.hid (reads_four wz (.int .i64 fp) (.int .i64 fr) (.int .i64 far) (.slice va fcode.length vc) 41)
      obtain ⟨t0, t1⟩ := cells2 C5.out.obj
      obtain ⟨f0, f1, f2, f3⟩ := cells4 F5.out
      clear r6 C5 O5
      go_wp2_with (at_builtin; (refine wpList_append_at rfl (.tmp 27) _ 23 rfl w.heap.size 41 (.agg zeroFn) 4 48 Tryz.underlying23 Tryz.infoFunc3 rfl (by decide) _ l.length _ rfl C6.out.fns.row 1 _ R6.out (four_one _ _ _ _ _ _ ()) (by unfold maxLen; omega) (by omega) C6.out.fr.size ?_); intro ga gc wg ho hg hb; have C7 := Lib.hid (C6.out.app (p := ((⟨fp, fr, far, fcode⟩ : Fx), va, vc)) O6.out hg ho); have ob := ((Fr.refl (fun k => (Value.slice oa l.length oc).ownBlock = some k) _).grown hg (fun k hk => .inl hk)).heap C6.out.obj (row_block_ne C6.out.fns.row C6.out.obj (by decide)); have x1 := cell_of_heap (o := 1) ob rfl; have y1 := frozen_of_heap (o := 1) ob; clear ho hg hb ob)
      go_roundw
      case rel => exact ⟨l ++ [((⟨fp, fr, far, fcode⟩ : Fx), va, vc)], _, _, by simp; omega, by rw [List.length_append]; go_num, Lib.hid (by rw [List.map_append, List.length_append]; exact HSN.out), C7⟩
      case measure => first | (simp [intOf]; done) | (simp [intOf]; omega)
    · have hlk : l.length = m.f.length := by omega
      have HLK := Lib.hid hlk
      have HE : Hid (l.map Prod.fst = m.f) := Lib.hid (by rw [hpre.out, hlk, List.take_length])
      obtain ⟨t0, t1⟩ := cells2 C0.out.obj
      obtain ⟨s0, s1⟩ := cells2 C0.out.res
      have g0 := frozen_of_heap (o := 0) C0.out.res
      have g1 := frozen_of_heap (o := 1) C0.out.res
      clear hlk hpre
      go_wp2_with fail
      have rr : Fr (only [w.heap.size + 1]) wr ((wr.setCell ⟨w.heap.size + 1, 0, none⟩ (.slice xa m.d.length xc)).setCell ⟨w.heap.size + 1, 1, none⟩ (.slice oa l.length oc)) := ((Fr.refl _ wr).setCell _ _ (.inl (by simp))).setCell _ _ (.inl (by simp))
      have hh := heap_setCell (o := 1) (v := .slice oa l.length oc) (heap_setCell (o := 0) (v := .slice xa m.d.length xc) C0.out.res)
      have DD := owns_fr C0.out.data rr (fun k hk e => by simp at e; subst e; exact row_block_ne C0.out.data C0.out.res (by decide) hk)
      have FF := C0.out.fns.odd rr (fun k hk => .inr (by simp at hk; subst hk; exact ⟨_, _, C0.out.res, by decide⟩))
      refine bodyPost_ret (results_one rfl rfl (load_mod _ _ (.slice xa m.d.length xc) (.slice oa l.length oc) (by simpa using hh))) rfl ?_
      refine ⟨xa, xc, oa, oc, by rw [HLK.out], ?_, C0.out.fr.trans' rr (fun k hk _ => by simp at hk; omega)⟩
      exact ⟨DD, l, HE.out, by rw [← HLK.out]; exact FF⟩

end Go.Proofs.YtihnkijeefkefaaGreat

/- The plain law of modules' bytes: Get is Put's inverse, and Put is Get's. -/
namespace Go.Proofs.YtihnkijeefkefaaGreat

theorem takeP_app {bs x rest : List Nat} {a : Nat} (h : bs.drop a = x ++ rest) (f : Int) (ha : a ≤ bs.length) : takeP bs x.length ⟨a, 0, f⟩ = (x, ⟨a + x.length, 0, f⟩) ∧ bs.drop (a + x.length) = rest ∧ a + x.length ≤ bs.length := by
  have hl := congrArg List.length h
  simp only [List.length_drop, List.length_append] at hl
  refine ⟨?_, by rw [← List.drop_drop, h, List.drop_left' rfl], by omega⟩
  unfold takeP
  rw [if_neg (by simp), if_neg (by show ¬ bs.length - a < x.length; omega)]
  show ((bs.drop a).take x.length, (_ : Pl)) = _
  rw [h, List.take_left' rfl]
theorem take_le {bs rest : List Nat} {a n k : Nat} (h : bs.drop a = le n k ++ rest) (f : Int) (ha : a ≤ bs.length) : takeP bs k ⟨a, 0, f⟩ = (le n k, ⟨a + k, 0, f⟩) ∧ bs.drop (a + k) = rest ∧ a + k ≤ bs.length := by
  have := takeP_app h f ha
  rwa [le_len] at this
theorem blockP_app {bs x rest : List Nat} {a most : Nat} (h : bs.drop a = le x.length 2 ++ (x ++ rest)) (f : Int) (ha : a ≤ bs.length) (hm : x.length ≤ most) (hn : x.length < 65536) : blockP bs most ⟨a, 0, f⟩ = (x, ⟨a + 2 + x.length, 0, f⟩) ∧ bs.drop (a + 2 + x.length) = rest ∧ a + 2 + x.length ≤ bs.length := by
  obtain ⟨h1, h2, h3⟩ := take_le h f ha
  have hu : unle (le x.length 2) = x.length := unle_le 2 _ (by omega)
  obtain ⟨h4, h5, h6⟩ := takeP_app h2 f h3
  refine ⟨?_, h5, h6⟩
  unfold blockP blockS
  rw [h1]
  dsimp only
  rw [hu, if_neg (by omega)]
  exact h4
theorem functionP_app {bs rest : List Nat} {a : Nat} {g : Fx} (h : bs.drop a = fnB g ++ rest) (f : Int) (ha : a ≤ bs.length) (hck : fnCk g = 0) (hN : ∀ i ∈ g.c, rng i.N) :
    functionP bs ⟨a, 0, f⟩ = ([g], ⟨a + (fnB g).length, 0, f⟩) ∧ bs.drop (a + (fnB g).length) = rest ∧ a + (fnB g).length ≤ bs.length := by
  obtain ⟨k1, k2, -⟩ := fnCk_zero hck
  obtain ⟨p1, p2, p3, p4, p5, p6⟩ := numBad_false k1
  obtain ⟨j1, j2, j3⟩ := joinCk_zero g.c k2
  have hjl := joinB_len g.c
  have hfl : (fnB g).length = 1 + (1 + (2 + (2 + (joinB g.c).length))) := by simp [fnB, le_len]
  unfold fnB at h
  simp only [List.append_assoc] at h
  obtain ⟨a1, a2, a3⟩ := take_le h f ha
  obtain ⟨b1, b2, b3⟩ := take_le a2 f a3
  obtain ⟨c1, c2, c3⟩ := take_le b2 f b3
  obtain ⟨d1, d2, d3⟩ := blockP_app (most := 4096) c2 f c3 hjl (by omega)
  have eA : fnA bs ⟨a, 0, f⟩ = (le g.p.toNat 1, ⟨a + 1, 0, f⟩) := a1
  have eB : fnBb bs ⟨a, 0, f⟩ = (le g.r.toNat 1, ⟨a + 1 + 1, 0, f⟩) := by unfold fnBb; rw [eA]; exact b1
  have eC : fnC bs ⟨a, 0, f⟩ = (le g.a.toNat 2, ⟨a + 1 + 1 + 2, 0, f⟩) := by unfold fnC; rw [eB]; exact c1
  have eD : fnD bs ⟨a, 0, f⟩ = (joinB g.c, ⟨a + 1 + 1 + 2 + 2 + (joinB g.c).length, 0, f⟩) := by unfold fnD; rw [eC]; exact d1
  have eS : fnSp bs ⟨a, 0, f⟩ = ⟨g.c, placesOf g.c, 0, 0⟩ := by unfold fnSp; rw [eD]; dsimp only; rw [j3]; exact splitR_joined g.c j1 hN
  have e5 : a + (fnB g).length = a + 1 + 1 + 2 + 2 + (joinB g.c).length := by omega
  refine ⟨?_, by rw [e5]; exact d2, by omega⟩
  unfold functionP
  rw [eA, eB, eC, eD, eS]
  dsimp only
  rw [if_neg (by simp), if_neg (by simp), e5, unle_le 1 _ (by omega), unle_le 1 _ (by omega), unle_le 2 _ (by omega)]
  obtain ⟨p, r, ar, c⟩ := g
  dsimp only at *
  rw [Int.toNat_of_nonneg p1, Int.toNat_of_nonneg (by omega), Int.toNat_of_nonneg p5]
theorem loopP_app {bs rest : List Nat} {a : Nat} {fs : List Fx} (h : bs.drop a = fnsB fs ++ rest) (f : Int) (ha : a ≤ bs.length) (hck : ∀ g ∈ fs, fnCk g = 0) (hN : ∀ g ∈ fs, ∀ i ∈ g.c, rng i.N) :
    ∀ k, k ≤ fs.length → loopP bs k ([], ⟨a, 0, f⟩) = (fs.take k, ⟨a + (fnsB (fs.take k)).length, 0, f⟩) ∧ bs.drop (a + (fnsB (fs.take k)).length) = fnsB (fs.drop k) ++ rest ∧ a + (fnsB (fs.take k)).length ≤ bs.length
  | 0, _ => ⟨by simp [loopP, fnsB], by simpa [fnsB] using h, by simpa [fnsB] using ha⟩
  | k + 1, hk => by
    obtain ⟨h1, h2, h3⟩ := loopP_app h f ha hck hN k (by omega)
    have hks : k < fs.length := by omega
    have hd : fnsB (fs.drop k) = fnB fs[k] ++ fnsB (fs.drop (k + 1)) := by
      rw [List.drop_eq_getElem_cons hks]
      rfl
    rw [hd, List.append_assoc] at h2
    obtain ⟨q1, q2, q3⟩ := functionP_app h2 f h3 (hck _ (List.getElem_mem hks)) (hN _ (List.getElem_mem hks))
    have hs := fnsB_take fs k hks
    refine ⟨?_, ?_, ?_⟩
    · show (let y := loopP bs k ([], ⟨a, 0, f⟩); if y.2.er = 0 then (y.1 ++ (functionP bs y.2).1, (functionP bs y.2).2) else y) = _
      rw [h1]
      dsimp only
      rw [if_pos rfl, q1, hs, List.length_append, ← Nat.add_assoc, List.take_succ_eq_append_getElem hks]
    · rw [hs, List.length_append, ← Nat.add_assoc]; exact q2
    · rw [hs, List.length_append, ← Nat.add_assoc]; exact q3

/-- a module that may be, of numbers that are some -/
structure FineM (m : Mx) : Prop where
  ck : modCk m = 0
  n : ∀ g ∈ m.f, ∀ i ∈ g.c, rng i.N
  d : ∀ b ∈ m.d, b < 256
theorem headP_mark (t : List Nat) : headP ([84, 87, 1] ++ t) = ⟨3, 0, 0⟩ := by
  have hb : badH ([84, 87, 1] ++ t) 3 = false := by
    simp [badH, markL, List.range_succ]
  unfold headP headS
  rw [hb]
  have := (takeP_app (bs := [84, 87, 1] ++ t) (x := [84, 87, 1]) (rest := t) (a := 0) rfl 0 (Nat.zero_le _)).1
  have e : takeP ([84, 87, 1] ++ t) 3 ⟨0, 0, 0⟩ = ([84, 87, 1], ⟨0 + 3, 0, 0⟩) := this
  rw [show (if false = true then (⟨0, 10, 0⟩ : Pl) else ⟨0, 0, 0⟩) = ⟨0, 0, 0⟩ from rfl, e]
theorem getE_enc (m : Mx) (h : FineM m) (rest : List Nat) : getB (modB m ++ rest) = (m.d, ⟨5 + m.d.length, 0, 0⟩) ∧ getE (modB m ++ rest) = (m.f, ⟨(modB m).length, 0, 0⟩) := by
  obtain ⟨z1, z2, z3, z4⟩ := modCk_zero h.ck
  have e0 : modB m ++ rest = [84, 87, 1] ++ (le m.d.length 2 ++ (m.d ++ (le m.f.length 1 ++ (fnsB m.f ++ rest)))) := by simp [modB, headB]
  have hml : (modB m).length = 3 + (2 + (m.d.length + 1)) + (fnsB m.f).length := by simp [modB, headB, le_len]; omega
  have hH : headP (modB m ++ rest) = ⟨3, 0, 0⟩ := by rw [e0]; exact headP_mark _
  have hd : (modB m ++ rest).drop 3 = le m.d.length 2 ++ (m.d ++ (le m.f.length 1 ++ (fnsB m.f ++ rest))) := by rw [e0]; exact List.drop_left' rfl
  have h3 : 3 ≤ (modB m ++ rest).length := by rw [e0]; simp
  obtain ⟨b1, b2, b3⟩ := blockP_app (most := 8192) hd 0 h3 z1 (by omega)
  obtain ⟨c1, c2, c3⟩ := take_le b2 0 b3
  have eB : getB (modB m ++ rest) = (m.d, ⟨3 + 2 + m.d.length, 0, 0⟩) := by unfold getB; rw [hH]; exact b1
  have eC : getC (modB m ++ rest) = (le m.f.length 1, ⟨3 + 2 + m.d.length + 1, 0, 0⟩) := by unfold getC; rw [eB]; exact c1
  have eN : getN (modB m ++ rest) = m.f.length := by unfold getN; rw [eC]; dsimp only; exact unle_le 1 _ (by omega)
  have eD : getD (modB m ++ rest) = ⟨3 + 2 + m.d.length + 1, 0, 0⟩ := by
    unfold getD
    rw [eN, eC]
    dsimp only
    rw [if_neg (by omega)]
  obtain ⟨l1, -, -⟩ := loopP_app c2 0 c3 z4 h.n m.f.length (Nat.le_refl _)
  rw [List.take_length] at l1
  have e5 : 3 + 2 + m.d.length = 5 + m.d.length := by omega
  have e6 : 3 + 2 + m.d.length + 1 + (fnsB m.f).length = (modB m).length := by omega
  refine ⟨by rw [eB, e5], ?_⟩
  unfold getE
  rw [eN, eD, l1, e6]
theorem getM_enc (m : Mx) (h : FineM m) : getM (modB m) = (m, 0, 0) := by
  have := getE_enc m h []
  rw [List.append_nil] at this
  obtain ⟨h1, h2⟩ := this
  have eX : getMx (modB m) = m := by unfold getMx; rw [h1, h2]
  have eF : getF (modB m) = ⟨(modB m).length, 0, 0⟩ := by unfold getF; rw [h2]; dsimp only; rw [if_neg (by omega)]
  have eG : getG (modB m) = ⟨(modB m).length, 0, 0⟩ := by unfold getG; rw [eX, h.ck, eF]; rfl
  unfold getM
  rw [eG, eX]
  rfl
theorem getM_more (m : Mx) (h : FineM m) (x : Nat) (t : List Nat) : getM (modB m ++ x :: t) = ((⟨[], []⟩ : Mx), (4 : Int), (((modB m).length : Nat) : Int)) := by
  obtain ⟨h1, h2⟩ := getE_enc m h (x :: t)
  have eX : getMx (modB m ++ x :: t) = m := by unfold getMx; rw [h1, h2]
  have eF : getF (modB m ++ x :: t) = (⟨(modB m).length, 4, ((modB m).length : Nat)⟩ : Pl) := by unfold getF; rw [h2]; dsimp only; rw [if_pos (by simp)]; rfl
  have eG : getG (modB m ++ x :: t) = (⟨(modB m).length, 4, ((modB m).length : Nat)⟩ : Pl) := by unfold getG; rw [eX, h.ck, eF]; rfl
  unfold getM
  rw [eG]
  rfl

end Go.Proofs.YtihnkijeefkefaaGreat

/- The plain law of modules' bytes: what is read is put as it was; where a fault is. -/
namespace Go.Proofs.YtihnkijeefkefaaGreat

/-! ### backward -/
theorem take_back {bs : List Nat} {n : Nat} {s : Pl} (ha : s.at_ ≤ bs.length) (h : (takeP bs n s).2.er = 0) : s.er = 0 ∧ (takeP bs n s).1.length = n ∧ (takeP bs n s).2 = ⟨s.at_ + n, 0, s.fa⟩ ∧ bs.take (s.at_ + n) = bs.take s.at_ ++ (takeP bs n s).1 ∧ s.at_ + n ≤ bs.length := by
  unfold takeP at h ⊢
  split at h
  · rename_i h0; exact (h0 h).elim
  · rename_i h0
    have h0' : s.er = 0 := by simpa using h0
    rw [if_neg h0]
    split at h
    · exfalso
      unfold failP at h
      rw [if_pos h0'] at h
      exact absurd h (by show ¬ (4 : Int) = 0; decide)
    · rename_i h1
      rw [if_neg h1]
      exact ⟨h0', by simp; omega, by rw [h0'], by rw [List.take_add], by omega⟩
theorem failP_er {s : Pl} {e a : Int} (he : e ≠ 0) : (failP s e a).er ≠ 0 := by
  unfold failP
  split
  · exact he
  · rename_i h; exact h
theorem block_back {bs : List Nat} (hb : ∀ b ∈ bs, b < 256) {most : Nat} {s : Pl} (ha : s.at_ ≤ bs.length) (h : (blockP bs most s).2.er = 0) :
    s.er = 0 ∧ (blockP bs most s).1.length ≤ most ∧ (blockP bs most s).1.length < 65536 ∧ (blockP bs most s).2 = ⟨s.at_ + 2 + (blockP bs most s).1.length, 0, s.fa⟩ ∧
      bs.take (s.at_ + 2 + (blockP bs most s).1.length) = bs.take s.at_ ++ (le (blockP bs most s).1.length 2 ++ (blockP bs most s).1) ∧ s.at_ + 2 + (blockP bs most s).1.length ≤ bs.length := by
  have hm := blockP_len bs most s ha
  have hl2 := takeP_lt hb 2 s
  unfold blockP at *
  obtain ⟨h1, h2, h3, h4, h5⟩ := take_back (blockS_at bs most s ha) h
  have hS : blockS bs most s = (takeP bs 2 s).2 := by
    unfold blockS at h1 ⊢
    split
    · rename_i hc; rw [if_pos hc] at h1; exact (failP_er (by decide) h1).elim
    · rfl
  rw [hS] at h1
  obtain ⟨g1, g2, g3, g4, g5⟩ := take_back ha h1
  rw [hS] at h3 h4 h5
  rw [hS] at h2 hm ⊢
  rw [g3] at h3 h4 h5 ⊢
  rw [g3] at h2 hm
  dsimp only at *
  have hu := unle_two _ hl2 (by omega)
  have hle : le (unle (takeP bs 2 s).1) 2 = (takeP bs 2 s).1 := by have := le_unle _ hl2; rwa [g2] at this
  rw [h2]
  refine ⟨g1, by omega, hu, h3, ?_, h5⟩
  rw [h4, g4, hle, List.append_assoc]
theorem function_back {bs : List Nat} (hb : ∀ b ∈ bs, b < 256) {s : Pl} (ha : s.at_ ≤ bs.length) (h : (functionP bs s).2.er = 0) :
    s.er = 0 ∧ ∃ g : Fx, (functionP bs s).1 = [g] ∧ (∀ i ∈ g.c, rng i.N) ∧ (functionP bs s).2 = ⟨s.at_ + (fnB g).length, 0, s.fa⟩ ∧ bs.take (s.at_ + (fnB g).length) = bs.take s.at_ ++ fnB g ∧ s.at_ + (fnB g).length ≤ bs.length := by
  have hd0 : (fnD bs s).2.er = 0 := by
    unfold functionP at h
    split at h
    · rename_i h0; exact (h0 h).elim
    · rename_i h0; simpa using h0
  have hs0 : (fnSp bs s).er = 0 := by
    unfold functionP at h
    rw [if_neg (by simpa using hd0)] at h
    dsimp only at h
    split at h
    · exact (failP_er (by decide) h).elim
    · rename_i h0; simpa using h0
  have eF : functionP bs s = ([⟨(unle (fnA bs s).1 : Nat), (unle (fnBb bs s).1 : Nat), (unle (fnC bs s).1 : Nat), (fnSp bs s).is⟩], (fnD bs s).2) := by
    unfold functionP
    rw [if_neg (by simpa using hd0), if_neg (by simpa using hs0)]
  have aA : (fnA bs s).2.at_ ≤ bs.length := takeP_le ha
  have aB : (fnBb bs s).2.at_ ≤ bs.length := takeP_le aA
  have aC : (fnC bs s).2.at_ ≤ bs.length := takeP_le aB
  obtain ⟨d1, d2, d3, d4, d5, d6⟩ := block_back hb aC hd0
  obtain ⟨c1, c2, c3, c4, c5⟩ := take_back aB d1
  obtain ⟨b1, b2, b3, b4, b5⟩ := take_back aA c1
  obtain ⟨a1, a2, a3, a4, a5⟩ := take_back ha b1
  have uA := takeP_lt hb 1 s
  have uB := takeP_lt hb 1 (fnA bs s).2
  have uC := takeP_lt hb 2 (fnBb bs s).2
  have uD := blockP_lt hb 4096 (fnC bs s).2
  change (fnA bs s).1.length = 1 at a2
  change (fnA bs s).2 = _ at a3
  change bs.take _ = _ ++ (fnA bs s).1 at a4
  change (fnBb bs s).1.length = 1 at b2
  change (fnBb bs s).2 = _ at b3
  change bs.take _ = _ ++ (fnBb bs s).1 at b4
  change (fnC bs s).1.length = 2 at c2
  change (fnC bs s).2 = _ at c3
  change bs.take _ = _ ++ (fnC bs s).1 at c4
  change (fnD bs s).1.length ≤ 4096 at d2
  change (fnD bs s).2 = ⟨_ + 2 + (fnD bs s).1.length, 0, _⟩ at d4
  change bs.take (_ + 2 + (fnD bs s).1.length) = _ ++ (le (fnD bs s).1.length 2 ++ (fnD bs s).1) at d5
  change _ + 2 + (fnD bs s).1.length ≤ _ at d6
  change ∀ b ∈ (fnA bs s).1, b < 256 at uA
  change ∀ b ∈ (fnBb bs s).1, b < 256 at uB
  change ∀ b ∈ (fnC bs s).1, b < 256 at uC
  change ∀ b ∈ (fnD bs s).1, b < 256 at uD
  obtain ⟨j1, j2⟩ : joinB (fnSp bs s).is = (fnD bs s).1 ∧ ∀ i ∈ (fnSp bs s).is, rng i.N := by
    rcases split_spl (fnD bs s).1 uD with ⟨-, hsp⟩ | ⟨hsp, -⟩
    · exact ⟨(spl_join hsp d2).2, hsp.n⟩
    · exact (hsp hs0).elim
  have lA := le_unle _ uA
  have lB := le_unle _ uB
  have lC := le_unle _ uC
  rw [a2] at lA
  rw [b2] at lB
  rw [c2] at lC
  have eB : fnB ⟨(unle (fnA bs s).1 : Nat), (unle (fnBb bs s).1 : Nat), (unle (fnC bs s).1 : Nat), (fnSp bs s).is⟩ = (fnA bs s).1 ++ ((fnBb bs s).1 ++ ((fnC bs s).1 ++ (le (fnD bs s).1.length 2 ++ (fnD bs s).1))) := by
    unfold fnB
    dsimp only
    rw [j1, Int.toNat_natCast, Int.toNat_natCast, Int.toNat_natCast, lA, lB, lC]
  have eL : (fnB ⟨(unle (fnA bs s).1 : Nat), (unle (fnBb bs s).1 : Nat), (unle (fnC bs s).1 : Nat), (fnSp bs s).is⟩).length = 1 + 1 + 2 + 2 + (fnD bs s).1.length := by
    rw [eB]
    simp only [List.length_append, a2, b2, c2, le_len]
    omega
  rw [a3] at b3 b4
  dsimp only at b3 b4
  rw [b3] at c3 c4
  dsimp only at c3 c4
  rw [c3] at d4 d5 d6
  dsimp only at d4 d5 d6
  have e5 : s.at_ + (1 + 1 + 2 + 2 + (fnD bs s).1.length) = s.at_ + 1 + 1 + 2 + 2 + (fnD bs s).1.length := by omega
  refine ⟨a1, _, by rw [eF], j2, ?_, ?_, ?_⟩
  · rw [eF, eL, e5]; exact d4
  · rw [eL, e5, eB, d5, c4, b4, a4]
    simp only [List.append_assoc]
  · rw [eL, e5]; exact d6
theorem loop_back {bs : List Nat} (hb : ∀ b ∈ bs, b < 256) {s : Pl} (ha : s.at_ ≤ bs.length) : ∀ k, (loopP bs k ([], s)).2.er = 0 → s.er = 0 ∧ (loopP bs k ([], s)).1.length = k ∧ (∀ g ∈ (loopP bs k ([], s)).1, ∀ i ∈ g.c, rng i.N) ∧
    (loopP bs k ([], s)).2 = ⟨s.at_ + (fnsB (loopP bs k ([], s)).1).length, 0, s.fa⟩ ∧ bs.take (s.at_ + (fnsB (loopP bs k ([], s)).1).length) = bs.take s.at_ ++ fnsB (loopP bs k ([], s)).1 ∧ s.at_ + (fnsB (loopP bs k ([], s)).1).length ≤ bs.length
  | 0, h => by
    refine ⟨h, rfl, (fun g hg => (by cases hg)), ?_, (by simp [loopP, fnsB]), (by simpa [loopP, fnsB] using ha)⟩
    have : s.er = 0 := h
    obtain ⟨a, b, c⟩ := s
    dsimp only at this
    subst this
    simp [loopP, fnsB]
  | k + 1, h => by
    have e : loopP bs (k + 1) ([], s) = (if (loopP bs k ([], s)).2.er = 0 then ((loopP bs k ([], s)).1 ++ (functionP bs (loopP bs k ([], s)).2).1, (functionP bs (loopP bs k ([], s)).2).2) else loopP bs k ([], s)) := rfl
    rw [e] at h ⊢
    by_cases hk : (loopP bs k ([], s)).2.er = 0
    · rw [if_pos hk] at h ⊢
      obtain ⟨h1, h2, h3, h4, h5, h6⟩ := loop_back hb ha k hk
      generalize loopP bs k ([], s) = y at *
      obtain ⟨l, t⟩ := y
      dsimp only at *
      have hta : t.at_ ≤ bs.length := by rw [h4]; exact h6
      obtain ⟨-, g, q2, q3, q4, q5, q6⟩ := function_back hb hta h
      have eA : fnsB (l ++ [g]) = fnsB l ++ fnB g := by simp [fnsB]
      rw [h4] at q4 q5 q6
      dsimp only at q4 q5 q6
      have e7 : s.at_ + (fnsB l ++ fnB g).length = s.at_ + (fnsB l).length + (fnB g).length := by rw [List.length_append, Nat.add_assoc]
      rw [q2, h4, eA, e7]
      refine ⟨h1, by simp [h2], fun g' hg => ?_, q4, by rw [q5, h5, List.append_assoc], q6⟩
      rcases List.mem_append.1 hg with hg | hg
      · exact h3 g' hg
      · rw [List.mem_singleton] at hg; subst hg; exact q3
    · rw [if_neg hk] at h; exact (hk h).elim

end Go.Proofs.YtihnkijeefkefaaGreat

/- The plain law of modules' bytes: Get's answer, backward; faults lie within. -/
namespace Go.Proofs.YtihnkijeefkefaaGreat

theorem three_of {bs : List Nat} (h3 : 3 ≤ bs.length) (hb : badH bs 3 = false) : bs.take 3 = [84, 87, 1] := by
  have h : ∀ i, i < 3 → bs.getD i 0 = markL.getD i 0 := by
    intro i hi
    unfold badH at hb
    rw [List.any_eq_false] at hb
    have := hb i (List.mem_range.2 hi)
    simp only [Bool.and_eq_true, decide_eq_true_eq, bne_iff_ne, ne_eq, not_and, Classical.not_not] at this
    exact this (by omega)
  match bs, h3, h with
  | a :: b :: c :: t, _, h =>
    have h0 := h 0 (by omega)
    have h1 := h 1 (by omega)
    have h2 := h 2 (by omega)
    simp [markL] at h0 h1 h2
    simp [h0, h1, h2]

theorem getM_back (bs : List Nat) (hb : ∀ b ∈ bs, b < 256) (h : (getM bs).2.1 = 0) : FineM (getM bs).1 ∧ modB (getM bs).1 = bs ∧ getM bs = ((getM bs).1, 0, 0) := by
  have hG : (getG bs).er = 0 := by
    unfold getM at h
    split at h
    · rename_i h0; exact (h0 h).elim
    · rename_i h0; simpa using h0
  have eM : getM bs = (getMx bs, 0, 0) := by unfold getM; rw [if_neg (by simpa using hG)]
  have hC : modCk (getMx bs) = 0 ∧ (getF bs).er = 0 := by
    unfold getG at hG
    split at hG
    · exact (failP_er (by decide) hG).elim
    · rename_i h0; exact ⟨by simpa using h0, hG⟩
  obtain ⟨hck, hF⟩ := hC
  have hE : (getE bs).2.er = 0 ∧ bs.length ≤ (getE bs).2.at_ := by
    unfold getF at hF
    split at hF
    · exact (failP_er (by decide) hF).elim
    · rename_i h0; exact ⟨hF, by omega⟩
  obtain ⟨hE1, hE2⟩ := hE
  obtain ⟨l1, l2, l3, l4, l5, l6⟩ := loop_back hb (getD_at bs) (getN bs) hE1
  change (getE bs).1.length = _ at l2
  change ∀ g ∈ (getE bs).1, _ at l3
  change (getE bs).2 = ⟨_ + (fnsB (getE bs).1).length, 0, _⟩ at l4
  change bs.take (_ + (fnsB (getE bs).1).length) = _ ++ fnsB (getE bs).1 at l5
  have hD : (getC bs).2.er = 0 ∧ getD bs = (getC bs).2 := by
    unfold getD at l1 ⊢
    split at l1
    · exact (failP_er (by decide) l1).elim
    · rename_i h0; rw [if_neg h0]; exact ⟨l1, rfl⟩
  obtain ⟨hC1, hD1⟩ := hD
  obtain ⟨c1, c2, c3, c4, c5⟩ := take_back (getB_at bs) hC1
  have uC := takeP_lt hb 1 (getB bs).2
  change (getC bs).1.length = 1 at c2
  change (getC bs).2 = _ at c3
  change bs.take _ = _ ++ (getC bs).1 at c4
  change ∀ b ∈ (getC bs).1, b < 256 at uC
  have lC : le (getN bs) 1 = (getC bs).1 := by have := le_unle _ uC; rwa [c2] at this
  obtain ⟨b1, b2, b3, b4, b5, b6⟩ := block_back hb (headP_at bs) c1
  change (getB bs).2 = ⟨_ + 2 + (getB bs).1.length, 0, _⟩ at b4
  change bs.take (_ + 2 + (getB bs).1.length) = _ ++ (le (getB bs).1.length 2 ++ (getB bs).1) at b5
  have uB := blockP_lt hb 8192 (headP bs)
  change ∀ b ∈ (getB bs).1, b < 256 at uB
  obtain ⟨h1, h2, h3, h4, h5⟩ := take_back (s := headS bs 3) (n := 3) (by rw [headS_at]; omega) b1
  change headP bs = _ at h3
  rw [headS_at] at h3 h5
  have hbad : badH bs 3 = false := by
    unfold headS at h1
    cases hq : badH bs 3 with
    | false => rfl
    | true => rw [hq] at h1; exact absurd h1 (by show ¬ (10 : Int) = 0; decide)
  have hm := three_of (by omega) hbad
  rw [h3] at b4 b5
  dsimp only at b4 b5
  rw [b4] at c3 c4
  dsimp only at c3 c4
  rw [hD1, c3] at l4 l5
  dsimp only at l4 l5
  rw [l4] at hE2
  dsimp only at hE2
  rw [List.take_of_length_le hE2, c4, b5, Nat.zero_add, hm] at l5
  refine ⟨?_, ?_, by rw [eM]⟩
  · rw [eM]
    exact ⟨hck, l3, uB⟩
  · rw [eM]
    dsimp only [getMx]
    unfold modB headB
    dsimp only
    refine Eq.trans ?_ l5.symm
    rw [l2, lC]
    simp only [List.append_assoc]

def InP (bs : List Nat) (s : Pl) : Prop := s.er ≠ 0 → 0 ≤ s.fa ∧ s.fa ≤ bs.length
theorem InP.fail {bs : List Nat} {s : Pl} (h : InP bs s) {e a : Int} (h0 : 0 ≤ a) (h1 : a ≤ bs.length) : InP bs (failP s e a) := by
  unfold failP
  split
  · exact fun _ => ⟨h0, h1⟩
  · exact h
theorem InP.take {bs : List Nat} {s : Pl} (h : InP bs s) (n : Nat) : InP bs (takeP bs n s).2 := by
  unfold takeP
  split
  · exact h
  · split
    · exact h.fail (by omega) (by omega)
    · exact fun e => h e
theorem InP.block {bs : List Nat} {s : Pl} (h : InP bs s) (ha : s.at_ ≤ bs.length) (most : Nat) : InP bs (blockP bs most s).2 := by
  unfold blockP
  refine InP.take ?_ _
  unfold blockS
  split
  · exact (h.take 2).fail (by omega) (by omega)
  · exact h.take 2
theorem InP.func {bs : List Nat} (hb : ∀ b ∈ bs, b < 256) {s : Pl} (h : InP bs s) (ha : s.at_ ≤ bs.length) : InP bs (functionP bs s).2 := by
  have aA : (fnA bs s).2.at_ ≤ bs.length := takeP_le ha
  have aB : (fnBb bs s).2.at_ ≤ bs.length := takeP_le aA
  have aC : (fnC bs s).2.at_ ≤ bs.length := takeP_le aB
  have hD : InP bs (fnD bs s).2 := (((h.take 1).take 1).take 2).block aC 4096
  unfold functionP
  split
  · exact hD
  · rename_i h0
    dsimp only
    split
    · obtain ⟨-, -, -, d4, -, d6⟩ := block_back (most := 4096) hb aC (Classical.not_not.1 h0)
      change (fnD bs s).2 = ⟨_ + 2 + (fnD bs s).1.length, 0, _⟩ at d4
      change _ + 2 + (fnD bs s).1.length ≤ _ at d6
      have e : (fnD bs s).2.at_ = (fnC bs s).2.at_ + 2 + (fnD bs s).1.length := by rw [d4]
      exact hD.fail (by omega) (by omega)
    · exact hD
theorem InP.loop {bs : List Nat} (hb : ∀ b ∈ bs, b < 256) {s : Pl} (h : InP bs s) (ha : s.at_ ≤ bs.length) : ∀ k, InP bs (loopP bs k ([], s)).2 ∧ (loopP bs k ([], s)).2.at_ ≤ bs.length
  | 0 => ⟨h, ha⟩
  | k + 1 => by
    obtain ⟨h1, h2⟩ := InP.loop hb h ha k
    have e : loopP bs (k + 1) ([], s) = (if (loopP bs k ([], s)).2.er = 0 then ((loopP bs k ([], s)).1 ++ (functionP bs (loopP bs k ([], s)).2).1, (functionP bs (loopP bs k ([], s)).2).2) else loopP bs k ([], s)) := rfl
    rw [e]
    split
    · exact ⟨h1.func hb h2, functionP_at bs _ h2⟩
    · exact ⟨h1, h2⟩
theorem getM_bad (bs : List Nat) (hb : ∀ b ∈ bs, b < 256) (h : (getM bs).2.1 ≠ 0) : (getM bs).1 = ⟨[], []⟩ ∧ 0 ≤ (getM bs).2.2 ∧ (getM bs).2.2 ≤ bs.length := by
  have hH : InP bs (headP bs) := by
    refine InP.take ?_ 3
    unfold headS
    split
    · exact fun _ => ⟨by show (0 : Int) ≤ 0; omega, by show (0 : Int) ≤ _; omega⟩
    · exact fun e => (e rfl).elim
  have hB : InP bs (getB bs).2 := hH.block (headP_at bs) 8192
  have hC : InP bs (getC bs).2 := hB.take 1
  have hD : InP bs (getD bs) := by
    unfold getD
    split
    · exact hC.fail (by omega) (by have := getB_at bs; omega)
    · exact hC
  obtain ⟨hE, aE⟩ := InP.loop hb hD (getD_at bs) (getN bs)
  have hF : InP bs (getF bs) := by
    unfold getF
    split
    · exact InP.fail hE (by omega) (by omega)
    · exact hE
  have hG : InP bs (getG bs) := by
    unfold getG
    split
    · exact hF.fail (by omega) (by omega)
    · exact hF
  unfold getM at h ⊢
  split at h
  · rename_i h0
    rw [if_pos h0]
    exact ⟨rfl, hG h0⟩
  · exact (h rfl).elim
/-- without its last byte, no module's bytes are one's -/
theorem getM_less (bs : List Nat) (hb : ∀ b ∈ bs, b < 256) (h : (getM bs).2.1 = 0) : bs ≠ [] ∧ (getM (bs.take (bs.length - 1))).2.1 ≠ 0 := by
  obtain ⟨h1, h2, h3⟩ := getM_back bs hb h
  have hne : bs ≠ [] := by
    rw [← h2]
    simp [modB, headB]
  refine ⟨hne, fun h4 => ?_⟩
  obtain ⟨q1, q2, -⟩ := getM_back _ (fun b hb' => hb b (List.mem_of_mem_take hb')) h4
  have e : bs = bs.take (bs.length - 1) ++ [bs.getLast hne] := by
    rw [← List.dropLast_eq_take, List.dropLast_concat_getLast]
  have := getM_more _ q1 (bs.getLast hne) []
  rw [q2, ← e] at this
  rw [this] at h
  exact absurd h (by show ¬ (4 : Int) = 0; decide)

end Go.Proofs.YtihnkijeefkefaaGreat

/- law08's bytes, echo, fails, awake. -/
namespace Go.Proofs.YtihnkijeefkefaaGreat
open Go.RowKit

attribute [local go_sem] Program.isFuncB Program.isSliceB

variable {w w' w'' w0 : World}

def echoI : List Ix := [⟨30, 0, 0, 0, 0, []⟩, ⟨32, 0, 0, 0, 0, []⟩]
def echoF (p r : Int) : Fx := ⟨p, r, 0, echoI⟩
def echoX (p r : Int) : Mx := ⟨[], [echoF p r]⟩
def echoBs : List Nat := [84, 87, 1, 0, 0, 1, 0, 1, 0, 0, 4, 0, 30, 0, 32, 0]
theorem echo_small (p r : Int) : (echoX p r).Small := ⟨by simp [echoX], by simp [echoX], fun f hf => by
  simp only [echoX, List.mem_singleton] at hf
  subst hf
  exact ⟨by simp [echoF, echoI], fun i hi => by simp [echoF, echoI] at hi; rcases hi with rfl | rfl <;> simp⟩, fun b hb => by simp [echoX] at hb⟩
theorem echo_put : modCk (echoX 0 1) = 0 ∧ putM (echoX 0 1) = echoBs := ⟨by kernel_rfl, by kernel_rfl⟩
theorem echo_get : getM echoBs = (echoX 0 1, 0, 0) := by kernel_rfl

/-- the echo module's blocks -/
structure EchoAt (w : World) (b : Nat) (p r : Int) : Prop where
  code : w.heap[b]? = some (.cells #[.int .i64 30, .int .i64 0, .int .i64 0, .int .i64 0, .int .i64 0, .slice none 0 0, .int .i64 32, .int .i64 0, .int .i64 0, .int .i64 0, .int .i64 0, .slice none 0 0] 112 (0, 0))
  fn : w.heap[b + 1]? = some (.cells #[.int .i64 p, .int .i64 r, .int .i64 0, .slice (some ⟨b, 0, none⟩) 2 2] 41 (0, 0))
theorem EchoAt.mod {b : Nat} {p r : Int} (h : EchoAt w b p r) : ModIn w (echoX p r) none 0 (some ⟨b + 1, 0, none⟩) := by
  refine ⟨.inl ⟨rfl, rfl, rfl⟩, fun k hk => ?_⟩
  obtain rfl : k = 0 := by simp [echoX] at hk; exact hk
  refine ⟨b + 1, 0, some ⟨b, 0, none⟩, 2, rfl, ⟨fun j v hj => ?_, fun k hk => ?_⟩⟩
  · have hj4 : j < 4 := (List.getElem?_eq_some_iff.1 hj).1
    refine cell_of_heap h.fn ?_
    rw [show 0 + 0 * 4 + j = j from by omega]
    rw [← hj]
    simp [echoX, echoF, Fx.cells, echoI]
  · have hk2 : k < 2 := by simpa [echoX, echoF, echoI] using hk
    refine ⟨b, 0, .slice none 0 0, rfl, ⟨fun j v hj => ?_, ?_⟩⟩
    · have hj6 : j < 6 := (List.getElem?_eq_some_iff.1 hj).1
      refine cell_of_heap h.code ?_
      rw [← hj]
      obtain rfl | rfl : k = 0 ∨ k = 1 := by omega
      · obtain rfl | rfl | rfl | rfl | rfl | rfl : j = 0 ∨ j = 1 ∨ j = 2 ∨ j = 3 ∨ j = 4 ∨ j = 5 := by omega
        all_goals rfl
      · obtain rfl | rfl | rfl | rfl | rfl | rfl : j = 0 ∨ j = 1 ∨ j = 2 ∨ j = 3 ∨ j = 4 ∨ j = 5 := by omega
        all_goals rfl
    · obtain rfl | rfl : k = 0 ∨ k = 1 := by omega
      · exact .inl ⟨rfl, rfl, rfl⟩
      · exact .inl ⟨rfl, rfl, rfl⟩
theorem EchoAt.fr {b : Nat} {p r : Int} (h : EchoAt w b p r) (f : Fr no w w') : EchoAt w' b p r := ⟨f.heap h.code (by simp), f.heap h.fn (by simp)⟩

theorem load_at (w : World) (b : Nat) (cs : Array Value) (t : TypeId) (h : w.heap[b]? = some (.cells cs t (0, 0))) : At w b 0 cs.toList := At.of_heap h

def alnum (b o n c : Nat) : Value := .slice (some ⟨b, o, none⟩) n c
theorem echo_reads (w : World) : Reads (w.alloc (.cells (u8s echoBs).toArray 5)) (.slice (some ⟨w.heap.size, 0, none⟩) 16 16) 1 echoBs.length (u8s echoBs) := owns_reads (owns_row w (u8s echoBs) 5 (by simp [u8s, echoBs]))
theorem echo_lt : ∀ b ∈ echoBs, b < 256 := by intro b hb; simp [echoBs] at hb; omega

end Go.Proofs.YtihnkijeefkefaaGreat

/- ModuleKnown's walk. -/
namespace Go.Proofs.YtihnkijeefkefaaGreat
open Go.RowKit

attribute [local go_sem] Program.isFuncB Program.isSliceB

variable {w w' w'' w0 : World}

theorem wpList_guarded {P : Program} {ops : Array Oper} {Q : Exit → Act → World → Prop} {a : Act} {w : World} {rest : List Oper} {o : Oper} (hw : Region.wanted o (yielded ops a.tmps) = true)
    (h : ∀ K : Act → World → Prop, (∀ a w, wpList P ops Q rest a w → K a w) → o.wp P a w K Q) : wpList P ops Q (o :: rest) a w := by
  unfold wpList
  rw [if_pos hw]
  exact .inl (h _ (fun a w h => h))
theorem form_owns {base : Nat} {e : TypeId} {v : Value} {bs : List Nat} (h : w.ownsRow base e 1 v bs.length (u8s bs)) : (v = .slice none 0 0 ∧ bs = []) ∨ ∃ b o c, v = .slice (some ⟨b, o, none⟩) bs.length c := by
  rcases h.2 with ⟨rfl, h0⟩ | ⟨g, cap, cur, rfl, -⟩
  · exact .inl ⟨rfl, List.length_eq_zero_iff.1 h0⟩
  · exact .inr ⟨g, 0, cap, rfl⟩
theorem k_1 : getM [84] = (⟨[], []⟩, 4, 1) := by kernel_rfl
theorem k_2 : getM [85] = (⟨[], []⟩, 10, 0) := by kernel_rfl
theorem k_3 : getM [84, 87, 1, 0, 0, 0] = (⟨[], []⟩, 2, 5) := by kernel_rfl
theorem k_4 : getM (echoBs ++ [9]) = (⟨[], []⟩, 4, 16) := by kernel_rfl
theorem k_5 : getM [84, 87, 1, 1, 32] = (⟨[], []⟩, 3, 3) := by kernel_rfl
theorem c_1 : modCk ⟨[], []⟩ = 2 := by kernel_rfl
theorem c_2 : modCk (echoX 0 0) = 5 := by kernel_rfl
theorem c_3 : modCk (echoX 2 1) = 2 := by kernel_rfl
end Go.Proofs.YtihnkijeefkefaaGreat

/- A module that was handed in, opened; kit's LongModule. -/
namespace Go.Proofs.YtihnkijeefkefaaGreat
open Go.RowKit

attribute [local go_sem] Program.isFuncB Program.isSliceB

variable {w w' w'' w0 : World}

theorem len_four : ∀ (es : List Value), es.length = 4 → ∃ a b c d, es = [a, b, c, d]
  | [a, b, c, d], _ => ⟨a, b, c, d, rfl⟩
/-- numbers that are some, of lengths that are some -/
structure Mx.Raw (m : Mx) : Prop where
  data : m.d.length ≤ maxLen
  fns : m.f.length ≤ maxLen
  code : ∀ f ∈ m.f, f.c.length ≤ maxLen
  args : ∀ f ∈ m.f, ∀ i ∈ f.c, i.l.length ≤ maxLen
  n : ∀ f ∈ m.f, ∀ i ∈ f.c, rng i.N
  lt : ∀ b ∈ m.d, b < 256
theorem fn_of {n : Nat} {cs : List Value} {d : Dt} (h : Rd Tryz.prog w n 41 cs d) : ∃ (f : Fx) (ca : Option Addr) (cc : Nat), cs = f.cells (.slice ca f.c.length cc) ∧ CodeIn w ca f.c ∧ f.c.length ≤ maxLen ∧ (∀ i ∈ f.c, i.l.length ≤ maxLen) ∧ ∀ i ∈ f.c, rng i.N := by
  obtain ⟨fl, -, hlen, -, hf⟩ := h.fields (z := 4) Tryz.underlying41 (by kernel_rfl)
  obtain ⟨a0, a1, a2, a3, rfl⟩ := len_four cs hlen
  obtain ⟨_, -, r0⟩ := hf 0 3 0 1 rfl (by kernel_rfl)
  obtain ⟨_, -, r1⟩ := hf 1 3 1 1 rfl (by kernel_rfl)
  obtain ⟨_, -, r2⟩ := hf 2 3 2 1 rfl (by kernel_rfl)
  obtain ⟨_, -, r3⟩ := hf 3 39 3 1 rfl (by kernel_rfl)
  obtain ⟨p, e0, -, -⟩ := r0.int Tryz.underlying3
  obtain ⟨r, e1, -, -⟩ := r1.int Tryz.underlying3
  obtain ⟨a, e2, -, -⟩ := r2.int Tryz.underlying3
  obtain ⟨sa, c, is, e3, h1, h2, h3, h4⟩ := code_of (v := a3) r3
  simp at e0 e1 e2
  subst e0 e1 e2 e3
  exact ⟨⟨p, r, a, is⟩, sa, c, rfl, h1, h2, h3, h4⟩
theorem mod_of {n : Nat} {cs : List Value} {d : Dt} (h : Rd Tryz.prog w n 25 cs d) : ∃ (m : Mx) (da : Option Addr) (dc : Nat) (fa : Option Addr) (fc : Nat), cs = [.slice da m.d.length dc, .slice fa m.f.length fc] ∧ ModIn w m da dc fa ∧ m.Raw := by
  obtain ⟨fl, -, hlen, -, hf⟩ := h.fields (z := 2) Tryz.underlying25 (by kernel_rfl)
  obtain ⟨a0, a1, rfl⟩ := len_two cs hlen
  obtain ⟨_, -, r0⟩ := hf 0 22 0 1 rfl (by kernel_rfl)
  obtain ⟨_, -, r1⟩ := hf 1 23 1 1 rfl (by kernel_rfl)
  obtain ⟨bs, hr, hlt, hm⟩ := bytes_of (v := a0) r0
  obtain ⟨da, dc, rfl⟩ := hr.shape
  obtain ⟨l, sa, cap, -, hcs, h1, h2, h3, h4⟩ := Rd.rows (cs := [a1]) (z := 4) Tryz.underlying23 (by kernel_rfl) (by decide) r1
  obtain rfl : a1 = .slice sa l.length cap := by simpa using hcs
  have hd : ∀ i, i < l.length → ∃ f : Fx, (f.c.length ≤ maxLen ∧ (∀ j ∈ f.c, j.l.length ≤ maxLen) ∧ ∀ j ∈ f.c, rng j.N) ∧ ∃ b o ca cc, sa = some ⟨b, o, none⟩ ∧ FnIn w b (o + i * 4) f ca cc := by
    intro i hi
    obtain ⟨b, o, es, rfl, h5, h6, h7⟩ := h4 i hi
    obtain ⟨f, ca, cc, rfl, q1, q2, q3, q4⟩ := fn_of h7
    exact ⟨f, ⟨q2, q3, q4⟩, b, o, ca, cc, rfl, ⟨fun j v hj => h6 j v hj, q1⟩⟩
  obtain ⟨fs, hl, hp⟩ := list_of_each hd
  refine ⟨⟨bs, fs⟩, da, dc, sa, cap, by rw [hl], ⟨hr, fun k hk => (hp k hk).2⟩, ⟨hm, by show fs.length ≤ maxLen; omega, fun f hf => ?_, fun f hf => ?_, fun f hf => ?_, hlt⟩⟩
  · obtain ⟨k, hk, rfl⟩ := List.getElem_of_mem hf
    exact (hp k hk).1.1
  · obtain ⟨k, hk, rfl⟩ := List.getElem_of_mem hf
    exact (hp k hk).1.2.1
  · obtain ⟨k, hk, rfl⟩ := List.getElem_of_mem hf
    exact (hp k hk).1.2.2

def Few (f : Fx) : Prop := f.c.length ≤ 60 ∧ ∀ i ∈ f.c, i.l.length ≤ 20
def LongM (w : World) (m : Mx) (e : Ending) (w' : World) : Prop := ∃ q : Bool, e = .returned (.bool q) ∧ (q = false → m.d.length ≤ 300 ∧ m.f.length ≤ 6 ∧ ∀ f ∈ m.f, Few f) ∧ Fr no w w'
theorem LongM.of {m : Mx} (q : Bool) (hq : q = false → m.d.length ≤ 300 ∧ m.f.length ≤ 6 ∧ ∀ f ∈ m.f, Few f) (r : Fr no w w') : LongM w m (.returned (.bool q)) w' := ⟨q, rfl, hq, r⟩
theorem LongM.small {m : Mx} (hr : m.Raw) (h : m.d.length ≤ 300 ∧ m.f.length ≤ 6 ∧ ∀ f ∈ m.f, Few f) : m.Small :=
  ⟨by omega, by omega, fun f hf => ⟨by have := (h.2.2 f hf).1; omega, fun i hi => by have := (h.2.2 f hf).2 i hi; omega⟩, hr.lt⟩

set_option maxRecDepth 100000 in
set_option maxHeartbeats 8000000 in
theorem longm_ok (w : World) (m : Mx) (da : Option Addr) (dc : Nat) (fa : Option Addr) (fc : Nat) (hm : ModIn w m da dc fa) (hr : m.Raw) :
    Calls Tryz.prog 12 #[.agg #[.slice da m.d.length dc, .slice fa m.f.length fc]] w (LongM w m) := by
  obtain ⟨ds, fs⟩ := m
  obtain ⟨q1, q2, q3, q4, -, -⟩ := hr
  dsimp only at q1 q2 q3 q4 ⊢
  unfold maxLen at q1 q2 q3 q4
  have HC := Lib.hid q3
  have HAR := Lib.hid q4
  have HI := Lib.hid (modObj w (.slice da ds.length dc) (.slice fa fs.length fc))
  have r0 := (Fr.refl no w).alloc (.cells #[.slice da ds.length dc, .slice fa fs.length fc] 25)
  have R0 := Lib.hid r0
  have HF := Lib.hid (hm.fns.fr r0)
  clear q3 q4 r0 hm
  go_enter Tryz.func12, Tryz.ntmps12
  obtain ⟨c0, c1⟩ := cells2 HI.out
  by_cases h1 : 300 < ds.length
  · have h1' : (300 : Int) < ds.length := by omega
    go_wp2_with fail
    go_ret
    exact LongM.of true (fun h => by cases h) R0.out
  have h1' : ¬ (300 : Int) < ds.length := by omega
  by_cases h2 : 6 < fs.length
  · have h2' : (6 : Int) < fs.length := by omega
    go_wp2_with fail
    go_ret
    exact LongM.of true (fun h => by cases h) R0.out
  have h2' : ¬ (6 : Int) < fs.length := by omega
  go_wp2_with fail
  generalize w.alloc (.cells #[.slice da ds.length dc, .slice fa fs.length fc] 25) = wz at *
  go_loopw [3] (fun x wr => ∃ k : Nat, k ≤ fs.length ∧ x = .int .i64 k ∧ Hid (∀ f ∈ fs.take k, Few f) ∧ wr = wz) (fun x _ => (fs.length - intOf x).toNat)
  case atStart => exact ⟨0, by omega, rfl, Lib.hid (by simp), rfl⟩
  case round =>
    obtain ⟨k, hk, rfl, hpre, rfl⟩ := hrel
    by_cases hks : k < fs.length
    · have hks' : (k : Int) < fs.length := by omega
      obtain ⟨b, of, ca, cc, rfl, hi⟩ := HF.out k hks
      have d3 := hi.four.2.2.2
      have hcl := HC.out _ (List.getElem_mem hks)
      have HCI := Lib.hid hi.code
      have HA2 := Lib.hid (HAR.out _ (List.getElem_mem hks))
      have HN : Hid (Few fs[k] → ∀ f ∈ fs.take (k + 1), Few f) := Lib.hid (fun h f hf => by
        rw [List.take_succ_eq_append_getElem hks, List.mem_append, List.mem_singleton] at hf
        rcases hf with hf | rfl
        · exact hpre.out f hf
        · exact h)
      have HFW : Hid (Few fs[k] ↔ fs[k].c.length ≤ 60 ∧ ∀ i ∈ fs[k].c, i.l.length ≤ 20) := Lib.hid Iff.rfl
      generalize Few fs[k] = few at *
      generalize fs[k].c = is at *
      clear hi
      by_cases h3 : 60 < is.length
      · have h3' : (60 : Int) < is.length := by omega
        go_wp2_with fail
        go_ret
        exact LongM.of true (fun h => by cases h) R0.out
      have h3' : ¬ (60 : Int) < is.length := by omega
      obtain ⟨wy, hwy⟩ : ∃ x, x = wr := ⟨_, rfl⟩
      subst hwy
      go_wp2_with fail
      go_loopw [4] (fun x wr => ∃ j : Nat, j ≤ is.length ∧ x = .int .i64 j ∧ Hid (∀ i ∈ is.take j, i.l.length ≤ 20) ∧ wr = wy) (fun x _ => (is.length - intOf x).toNat)
      case atStart => exact ⟨0, by omega, rfl, Lib.hid (by simp), rfl⟩
      case round =>
        obtain ⟨j, hj, rfl, hp2, rfl⟩ := hrel
        by_cases hjs : j < is.length
        · have hjs' : (j : Int) < is.length := by omega
          obtain ⟨b2, of2, u, rfl, hi⟩ := HCI.out j hjs
          obtain ⟨ua, uc, rfl⟩ := hi.args.shape
          have c5 := hi.six.2.2.2.2.2
          have hal := HA2.out is[j] (List.getElem_mem _)
          have HN2 : Hid (is[j].l.length ≤ 20 → ∀ i ∈ is.take (j + 1), i.l.length ≤ 20) := Lib.hid (fun h i hi => by
            rw [List.take_succ_eq_append_getElem hjs, List.mem_append, List.mem_singleton] at hi
            rcases hi with hi | rfl
            · exact hp2.out i hi
            · exact h)
          generalize is[j].l.length = al at *
          clear hi
          by_cases h20 : al ≤ 20
          · have h20' : ¬ (20 : Int) < al := by omega
            have HN3 := Lib.hid (HN2.out h20)
            go_wp2_with fail
            go_roundw
            case rel => exact ⟨j + 1, by omega, by go_num, HN3, by trivial⟩
            case measure => first | (simp [intOf]; done) | (simp [intOf]; omega)
          · have h20' : (20 : Int) < al := by omega
            go_wp2_with fail
            go_ret
            exact LongM.of true (fun h => by cases h) R0.out
        · obtain rfl : j = is.length := by omega
          have HP : Hid few := Lib.hid (HFW.out.2 ⟨by omega, by have := hp2.out; rwa [List.take_length] at this⟩)
          have HP2 := Lib.hid (HN.out HP.out)
          go_wp2_with fail
          go_roundw
          case rel => exact ⟨k + 1, by omega, by go_num, HP2, by trivial⟩
          case measure => first | (simp [intOf]; done) | (simp [intOf]; omega)
    · obtain rfl : k = fs.length := by omega
      have HP := hpre.out
      rw [List.take_length] at HP
      have HPH := Lib.hid HP
      clear HP hpre
      go_wp2_with fail
      go_ret
      exact LongM.of false (fun _ => ⟨by show ds.length ≤ 300; omega, by show fs.length ≤ 6; omega, HPH.out⟩) R0.out

end Go.Proofs.YtihnkijeefkefaaGreat

/- twinshaftref08: function, Check. -/
namespace Go.Proofs.YtihnkijeefkefaaGreat
open Go.RowKit

attribute [local go_sem] Program.isFuncB Program.isSliceB

variable {w w' w'' w0 : World}

set_option maxHeartbeats 8000000 in
theorem reffn_ok (w : World) (f : Fx) (ca : Option Addr) (cc : Nat) (hc : CodeIn w ca f.c) (hs : f.Small) :
    Calls Tryz.prog 135 #[.agg #[.int .i64 f.p, .int .i64 f.r, .int .i64 f.a, .slice ca f.c.length cc]] w fun e w' => e = .returned (.int .i64 (fnCk f)) ∧ Fr no w w' := by
  obtain ⟨p, r, a, is⟩ := f
  obtain ⟨hs1, hs2⟩ := hs
  dsimp only at hc hs1 hs2 ⊢
  have HC := Lib.hid hc
  have HI := Lib.hid (fnObj w p r a (.slice ca is.length cc))
  have r0 := (Fr.refl no w).alloc (.cells #[.int .i64 p, .int .i64 r, .int .i64 a, .slice ca is.length cc] 41)
  have R0 := Lib.hid r0
  have HJ := Lib.hid (refjoin_ok (w.alloc (.cells #[.int .i64 p, .int .i64 r, .int .i64 a, .slice ca is.length cc] 41)) ca cc is (hc.fr r0) hs1 hs2)
  have HAR := Lib.hid hs2
  have HCK : Hid (fnCk ⟨p, r, a, is⟩ = if numBad p r a then 2 else if joinCk is ≠ 0 then joinCk is else opsCk is r a) := Lib.hid rfl
  have HNB : Hid (numBad p r a = decide (p < 0 ∨ 8 < p ∨ r < p ∨ 64 < r ∨ a < 0 ∨ 4096 < a)) := Lib.hid rfl
  generalize numBad p r a = nb at *
  generalize fnCk ⟨p, r, a, is⟩ = ck at *
  clear r0 hc hs2
  go_enter Tryz.func135, Tryz.ntmps135
  obtain ⟨c0, c1, c2, c3⟩ := cells4 HI.out
  by_cases h1 : p < 0
  · have HB : Hid (ck = 2) := Lib.hid (by rw [HCK.out, HNB.out, decide_eq_true (by omega)]; rfl)
    go_wp2_with fail
    go_ret
    exact ⟨by rw [HB.out]; rfl, R0.out⟩
  by_cases h2 : 8 < p
  · have HB : Hid (ck = 2) := Lib.hid (by rw [HCK.out, HNB.out, decide_eq_true (by omega)]; rfl)
    go_wp2_with fail
    go_ret
    exact ⟨by rw [HB.out]; rfl, R0.out⟩
  by_cases h3 : r < p
  · have HB : Hid (ck = 2) := Lib.hid (by rw [HCK.out, HNB.out, decide_eq_true (by omega)]; rfl)
    go_wp2_with fail
    go_ret
    exact ⟨by rw [HB.out]; rfl, R0.out⟩
  have h3' : p ≤ r := by omega
  have h3d : decide (r < p) = false := decide_eq_false h3
  by_cases h4 : 64 < r
  · have HB : Hid (ck = 2) := Lib.hid (by rw [HCK.out, HNB.out, decide_eq_true (by omega)]; rfl)
    go_wp2_with fail
    go_ret
    exact ⟨by rw [HB.out]; rfl, R0.out⟩
  by_cases h5 : a < 0
  · have HB : Hid (ck = 2) := Lib.hid (by rw [HCK.out, HNB.out, decide_eq_true (by omega)]; rfl)
    go_wp2_with fail
    go_ret
    exact ⟨by rw [HB.out]; rfl, R0.out⟩
  by_cases h6 : 4096 < a
  · have HB : Hid (ck = 2) := Lib.hid (by rw [HCK.out, HNB.out, decide_eq_true (by omega)]; rfl)
    go_wp2_with fail
    go_ret
    exact ⟨by rw [HB.out]; rfl, R0.out⟩
  have HN : Hid (ck = if joinCk is ≠ 0 then joinCk is else opsCk is r a) := Lib.hid (by
    rw [HCK.out, HNB.out, decide_eq_false (by omega)]; rfl)
  clear HCK HNB
  generalize joinCk is = jc at *
  go_wp2_with fail
  refine HJ.out.mono ?_
  rintro e w2 ⟨v, rfl, hv, r2⟩
  obtain ⟨va, vc, rfl⟩ := owns_shape hv
  have R2 := Lib.hid (R0.out.trans r2)
  have HI2 := Lib.hid (r2.heap HI.out (by simp))
  have HC2 := Lib.hid (HC.out.fr R2.out)
  clear r2 hv c0 c1 c2 c3 HI HJ HC R0 h1 h2 h3 h3' h3d h4 h5 h6
  obtain ⟨c0, c1, c2, c3⟩ := cells4 HI2.out
  by_cases hj : jc = 0
  case neg =>
    have e1 : (jc != 0) = true := by simpa using hj
    have HB : Hid (ck = jc) := Lib.hid (by rw [HN.out, if_pos hj])
    clear hj
    go_wp2_with fail
    go_ret
    exact ⟨by rw [HB.out] <;> rfl, R2.out⟩
  have e1 : (jc != 0) = false := by simpa using hj
  have HN2 : Hid (ck = opsCk is r a) := Lib.hid (by rw [HN.out, if_neg (by simpa using hj)])
  clear hj HN
  go_wp2_with fail
  go_loopw [5] (fun x wr => ∃ k : Nat, k ≤ is.length ∧ x = .int .i64 k ∧ Hid (∀ j (_ : j < k) (h : j < is.length), ckIn is[j] r a = 0) ∧ Hid (Fr no w2 wr)) (fun x _ => (is.length - intOf x).toNat)
  case atStart => exact ⟨0, by omega, rfl, Lib.hid (fun j h _ => by omega), Lib.hid (Fr.refl _ _)⟩
  case round =>
    obtain ⟨k, hk, rfl, hpre, hfr⟩ := hrel
    have HI3 := Lib.hid (hfr.out.heap HI2.out (by simp))
    clear c0 c1 c2 c3
    obtain ⟨c0, c1, c2, c3⟩ := cells4 HI3.out
    by_cases hks : k < is.length
    · have hks' : (k : Int) < is.length := by omega
      obtain ⟨b, of, u, rfl, hi⟩ := HC2.out.fr hfr.out k hks
      obtain ⟨ua, uc, rfl⟩ := hi.args.shape
      obtain ⟨d0, d1, d2, d3, d4, d5⟩ := hi.six
      have hal := HAR.out is[k] (List.getElem_mem _)
      have HPP := Lib.hid (fun w1 (h : Fr no wr w1) => refcheck_ok w1 is[k].o is[k].A is[k].B is[k].C is[k].N r a _ is[k].l (hi.args.fr h (by simp)) (by omega))
      have A1 := Lib.hid (At.fr hi.cell (Fr.refl no wr).drew)
      have HBAD : Hid (ckIn is[k] r a ≠ 0 → opsCk is r a = ckIn is[k] r a) := Lib.hid (fun h => find_bad (fun i => ckIn i r a) is k hks hpre.out h)
      have HPRE : Hid (ckIn is[k] r a = 0 → ∀ j (_ : j < k + 1) (h : j < is.length), ckIn is[j] r a = 0) := Lib.hid (fun h0 j hj h => by
        by_cases he : j = k
        · subst he; exact h0
        · exact hpre.out j (by omega) h)
      have HEQ : Hid (checkOf is[k].o is[k].A is[k].B is[k].C is[k].N is[k].l r a = ckIn is[k] r a) := Lib.hid rfl
      rw [HEQ.out] at HPP
      clear HEQ
      generalize ckIn is[k] r a = qk at *
      generalize is[k] = ix at *
      clear hi
      obtain ⟨io, iA, iB, iC, iN, il⟩ := ix
      unfold Ix.cells at A1
      dsimp only at A1 hal HPP
      unfold insV at HPP
      have HP5 := Lib.hid (HPP.out _ (Fr.refl no wr).drew)
      have e3 := (Fr.refl no wr).drew.cell c3 (by simp)
      have e1' := (Fr.refl no wr).drew.cell c1 (by simp)
      have e2' := (Fr.refl no wr).drew.cell c2 (by simp)
      clear HPP d0 d1 d2 d3 d4 d5
      go_upto_region 9 with fail
      refine Lex.region [9] [11] (by kernel_rfl) (by kernel_rfl) ?_
      refine Lex.opens (fun w' => At w' b (of + k * 6) [.int .i64 io, .int .i64 iA, .int .i64 iB, .int .i64 iC, .int .i64 iN, .slice ua il.length uc] ∧ w'.cell? ⟨w.heap.size, 1, none⟩ = some (.int .i64 r) ∧ w'.cell? ⟨w.heap.size, 2, none⟩ = some (.int .i64 a) ∧ w'.cell? ⟨w.heap.size, 3, none⟩ = some (.slice (some ⟨b, of, none⟩) is.length cc)) (⟨A1.out, e1', e2', e3⟩) ?_
      repeat (first
        | (refine Lex.skips (by rfl) ?_; (try simp only [Act.put, List.setIfInBounds_toArray, List.set_cons_zero, List.set_cons_succ]))
        | (refine Lex.into (by rfl) (by rfl) _ _ rfl _ _ rfl _ _ (fun w' h => h.1) Tryz.underlying112 rfl (by rw [Tryz.infoIns]; rfl) ?_; (try simp only [Act.put, List.setIfInBounds_toArray, List.set_cons_zero, List.set_cons_succ]))
        | (refine Lex.quiet (v := ?_) (by rfl) (by rfl) ?_ ?_; rotate_left; (focus (intro w' hS'; go_simp; try rfl)); (try simp only [Act.put, List.setIfInBounds_toArray, List.set_cons_zero, List.set_cons_succ])))
      refine Lex.loud (by rfl) (by rfl) ?_
      intro K' hK'
      go_simp
      refine HP5.out.mono ?_
      rintro e w6 ⟨rfl, r6⟩
      have R6 := Lib.hid (hfr.out.trans ((Fr.refl no wr).drew.trans r6))
      have A2 := Lib.hid (A1.out.fr r6)
      have f1 := r6.cell e1' (by simp)
      have f2 := r6.cell e2' (by simp)
      have f3 := r6.cell e3 (by simp)
      clear r6 c0 c1 c2 c3 e1' e2' e3
      refine hK' _ _ (⟨A2.out, f1, f2, f3⟩) ?_
      clear hK'
      try simp only [Act.put, List.setIfInBounds_toArray, List.set_cons_zero, List.set_cons_succ]
      repeat (first
        | (refine Lex.skips (by rfl) ?_; (try simp only [Act.put, List.setIfInBounds_toArray, List.set_cons_zero, List.set_cons_succ]))
        | (refine Lex.quiet (v := ?_) (by rfl) (by rfl) ?_ ?_; rotate_left; (focus (intro w' hS'; go_simp; try rfl)); (try simp only [Act.put, List.setIfInBounds_toArray, List.set_cons_zero, List.set_cons_succ])))
      refine Lex.done ?_
      refine Lex.ends ?_
      clear f1 f2 f3
      by_cases hq : qk = 0
      · have e2 : (qk != 0) = false := by simpa using hq
        have HP := Lib.hid (HPRE.out hq)
        clear hq
        go_wp2_with fail
        go_roundw
        case rel => exact ⟨k + 1, by omega, by go_num, HP, R6⟩
        case measure => first | (simp [intOf]; done) | (simp [intOf]; omega)
      · have e2 : (qk != 0) = true := by simpa using hq
        have HB := Lib.hid (HBAD.out hq)
        clear hq
        go_wp2_with fail
        go_ret
        exact ⟨by rw [HN2.out, HB.out] <;> rfl, R2.out.trans R6.out⟩
    · obtain rfl : k = is.length := by omega
      have HG : Hid (opsCk is r a = 0) := Lib.hid (find_good (fun i => ckIn i r a) is (fun j h => hpre.out j h h))
      go_wp2_with fail
      go_ret
      exact ⟨by rw [HN2.out, HG.out] <;> rfl, R2.out.trans hfr.out⟩

set_option maxHeartbeats 4000000 in
theorem refcheck_mod (w : World) (m : Mx) (da : Option Addr) (dc : Nat) (fa : Option Addr) (fc : Nat) (hm : ModIn w m da dc fa) (hs : m.Small) :
    Calls Tryz.prog 76 #[.agg #[.slice da m.d.length dc, .slice fa m.f.length fc]] w fun e w' => e = .returned (.int .i64 (modCk m)) ∧ Fr no w w' := by
  obtain ⟨ds, fs⟩ := m
  obtain ⟨hs1, hs2, hs3, -⟩ := hs
  dsimp only at hs1 hs2 hs3 ⊢
  have HF := Lib.hid hm.fns
  have HS := Lib.hid hs3
  have HI := Lib.hid (modObj w (.slice da ds.length dc) (.slice fa fs.length fc))
  have r0 := (Fr.refl no w).alloc (.cells #[.slice da ds.length dc, .slice fa fs.length fc] 25)
  have R0 := Lib.hid r0
  have HCK : Hid (modCk ⟨ds, fs⟩ = if 8192 < ds.length then 3 else if fs.length < 1 ∨ 64 < fs.length then 2 else fnsCk fs) := Lib.hid rfl
  generalize modCk ⟨ds, fs⟩ = ck at *
  clear r0 hm hs3
  go_enter Tryz.func76, Tryz.ntmps76
  obtain ⟨c0, c1⟩ := cells2 HI.out
  have h8' : ¬ (8192 : Int) < ds.length := by omega
  by_cases h1 : fs.length < 1
  · have h1' : (fs.length : Int) < 1 := by omega
    have HB : Hid (ck = 2) := Lib.hid (by rw [HCK.out, if_neg (by omega), if_pos (.inl h1)])
    go_wp2_with fail
    go_ret
    exact ⟨by rw [HB.out]; rfl, R0.out⟩
  have h1' : ¬ (fs.length : Int) < 1 := by omega
  by_cases h2 : 64 < fs.length
  · have h2' : (64 : Int) < fs.length := by omega
    have HB : Hid (ck = 2) := Lib.hid (by rw [HCK.out, if_neg (by omega), if_pos (.inr h2)])
    go_wp2_with fail
    go_ret
    exact ⟨by rw [HB.out]; rfl, R0.out⟩
  have h2' : ¬ (64 : Int) < fs.length := by omega
  have HN2 : Hid (ck = fnsCk fs) := Lib.hid (by rw [HCK.out, if_neg (by omega), if_neg (by omega)])
  clear HCK
  go_wp2_with fail
  go_loopw [3] (fun x wr => ∃ k : Nat, k ≤ fs.length ∧ x = .int .i64 k ∧ Hid (∀ j (_ : j < k) (h : j < fs.length), fnCk fs[j] = 0) ∧ Hid (Fr no (w.alloc (.cells #[.slice da ds.length dc, .slice fa fs.length fc] 25)) wr)) (fun x _ => (fs.length - intOf x).toNat)
  case atStart => exact ⟨0, by omega, rfl, Lib.hid (fun j h _ => by omega), Lib.hid (Fr.refl _ _)⟩
  case round =>
    obtain ⟨k, hk, rfl, hpre, hfr⟩ := hrel
    have HI3 := Lib.hid (hfr.out.heap HI.out (by simp))
    clear c0 c1
    obtain ⟨c0, c1⟩ := cells2 HI3.out
    by_cases hks : k < fs.length
    · have hks' : (k : Int) < fs.length := by omega
      obtain ⟨b, of, ca, cc, rfl, hi⟩ := HF.out.fr (R0.out.trans hfr.out) k hks
      obtain ⟨d0, d1, d2, d3⟩ := hi.four
      have HPP := Lib.hid (reffn_ok wr fs[k] ca cc hi.code (HS.out _ (List.getElem_mem hks)))
      have HBAD : Hid (fnCk fs[k] ≠ 0 → fnsCk fs = fnCk fs[k]) := Lib.hid (fun h => find_bad fnCk fs k hks hpre.out h)
      have HPRE : Hid (fnCk fs[k] = 0 → ∀ j (_ : j < k + 1) (h : j < fs.length), fnCk fs[j] = 0) := Lib.hid (fun h0 j hj h => by
        by_cases he : j = k
        · subst he; exact h0
        · exact hpre.out j (by omega) h)
      have AT := Lib.hid hi.cell
      generalize fnCk fs[k] = qk at *
      generalize fs[k] = fx at *
      clear hi
      obtain ⟨fp, fr, far, fcode⟩ := fx
      unfold Fx.cells at AT
      dsimp only at d0 d1 d2 d3 HPP AT
      go_wp2_with fail
      refine HPP.out.mono ?_
      rintro e w6 ⟨rfl, r6⟩
      have R6 := Lib.hid (hfr.out.trans r6)
      clear r6 d0 d1 d2 d3 c0 c1
      by_cases hq : qk = 0
      · have e2 : (qk != 0) = false := by simpa using hq
        have HP := Lib.hid (HPRE.out hq)
        clear hq
        go_wp2_with fail
        go_roundw
        case rel => exact ⟨k + 1, by omega, by go_num, HP, R6⟩
        case measure => first | (simp [intOf]; done) | (simp [intOf]; omega)
      · have e2 : (qk != 0) = true := by simpa using hq
        have HB := Lib.hid (HBAD.out hq)
        clear hq
        go_wp2_with fail
        go_ret
        exact ⟨by rw [HN2.out, HB.out] <;> rfl, R0.out.trans R6.out⟩
    · obtain rfl : k = fs.length := by omega
      have HG : Hid (fnsCk fs = 0) := Lib.hid (find_good fnCk fs (fun j h => hpre.out j h h))
      go_wp2_with fail
      go_ret
      exact ⟨by rw [HN2.out, HG.out] <;> rfl, R0.out.trans hfr.out⟩

end Go.Proofs.YtihnkijeefkefaaGreat

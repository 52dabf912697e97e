/- CopyModule once more, the code rows apart (law12). -/
import Derived.Test.YtofahdjnejodjaaGreatMC
set_option linter.unusedSimpArgs false
set_option linter.unusedVariables false
set_option linter.unusedSectionVars false
set_option linter.unnecessarySimpa false
namespace Go.Proofs.YtofahdjnejodjaaGreat
open Go.RowKit

attribute [local go_sem] Program.isFuncB Program.isSliceB

variable {w w' w'' w0 : World}

theorem CodeOwn.lt {base k : Nat} {v : Value} {is : List Ix} (h : CodeOwn w base v is) (hk : v.ownBlock = some k) : base ≤ k ∧ k < w.heap.size := by
  obtain ⟨l, e, h3, h4⟩ := h
  exact h3.lt k hk
/-- two functions' code rows lie apart -/
def SepV (p q : FxV) : Prop := ∀ k, p.val.ownBlock = some k → q.val.ownBlock ≠ some k

structure CN (w wr : World) (m : Mx) (tb : Nat) (box : Array Value) (xa : Option Addr) (xc : Nat) (oa : Option Addr) (oc : Nat) (l : List FxV) : Prop where
  obj : wr.heap[tb]? = some (.cells #[.slice xa m.d.length xc, .slice oa l.length oc] 38 (0, 0))
  box : wr.heap[w.heap.size]? = some (.cells box 38 (0, 0))
  res : wr.heap[w.heap.size + 1]? = some (.cells #[.slice none 0 0, .slice none 0 0] 38 (0, 0))
  data : wr.ownsRow w.heap.size 5 1 (.slice xa m.d.length xc) m.d.length (u8s m.d)
  fns : FnsOwn wr w.heap.size (.slice oa l.length oc) l
  fr : Fr no w wr
  lo : w.heap.size + 1 < tb
  sep : l.Pairwise SepV
theorem CN.fn {wr wr' : World} {m : Mx} {tb : Nat} {box : Array Value} {xa oa : Option Addr} {xc oc : Nat} {l : List FxV} (h : CN w wr m tb box xa xc oa oc l) (r : Fr no wr wr') : CN w wr' m tb box xa xc oa oc l :=
  ⟨r.heap h.obj (by simp), r.heap h.box (by simp), r.heap h.res (by simp), owns_fr h.data r (by simp), h.fns.fn r, h.fr.trans r, h.lo, h.sep⟩
/-- a block of the call's own, of a function, has turned -/
theorem CN.turn {wr wr' : World} {m : Mx} {tb fb : Nat} {box cs : Array Value} {xa oa : Option Addr} {xc oc : Nat} {l : List FxV} (h : CN w wr m tb box xa xc oa oc l) (r : Fr (only [fb]) wr wr') (hf : wr.heap[fb]? = some (.cells cs 50 (0, 0))) (h1 : ∀ k, (Value.slice oa l.length oc).ownBlock = some k → k ≠ fb) (hb : w.heap.size + 1 < fb) (hn : fb ≠ tb) : CN w wr' m tb box xa xc oa oc l := by
  refine ⟨r.heap h.obj (by simp; omega), r.heap h.box (by simp; omega), r.heap h.res (by simp; omega), owns_fr h.data r (fun k hk e => ?_), ⟨owns_fr h.fns.row r (fun k hk e => h1 k hk (by simpa using e)), fun p hp => (h.fns.code p hp).odd (ts := [47, 3]) r (fun k hk => .inr ?_) (by simp) (by simp)⟩, h.fr.trans' r (fun k hk _ => by simp at hk; omega), h.lo, h.sep⟩
  · simp at e; subst e; exact row_block_ne h.data hf (by decide) hk
  · simp at hk; subst hk; exact ⟨_, _, hf, by decide⟩
theorem CN.app {wr : World} {m : Mx} {tb : Nat} {box : Array Value} {xa oa ga : Option Addr} {xc oc gc : Nat} {l : List FxV} {p : FxV} (h : CN w wr m tb box xa xc oa oc l) (hc : CodeOwn wr w.heap.size p.val p.1.c) (hs : ∀ q ∈ l, SepV q p) (hg : wr.grownBy w' (Value.slice oa l.length oc).ownBlock) (ho : w'.ownsRow w.heap.size 50 4 (.slice ga (l.length + 1) gc) (l.length + 1) (fCells l ++ p.1.cells p.val)) : CN w (w'.setCell ⟨tb, 1, none⟩ (.slice ga (l.length + 1) gc)) m tb box xa xc ga gc (l ++ [p]) := by
  have q : Fr (fun k => (Value.slice oa l.length oc).ownBlock = some k) wr w' := (Fr.refl _ wr).grown hg (fun k hk => .inl hk)
  have o1 := q.heap h.obj (row_block_ne h.fns.row h.obj (by decide))
  have b1 := q.heap h.box (row_block_ne h.fns.row h.box (by decide))
  have s1 := q.heap h.res (row_block_ne h.fns.row h.res (by decide))
  have d1 := owns_fr h.data q (fun k hk e => rows_ne h.data h.fns.row (by decide) k hk e)
  have f1 := h.fns.app hc hg ho
  have rs : Fr (only [tb]) w' (w'.setCell ⟨tb, 1, none⟩ (.slice ga (l.length + 1) gc)) := (Fr.refl _ w').setCell _ _ (.inl (by simp))
  have lo := h.lo
  refine ⟨?_, rs.heap b1 (by simp; omega), rs.heap s1 (by simp; omega), owns_fr d1 rs (fun k hk e => by simp at e; subst e; exact row_block_ne d1 o1 (by decide) hk), by rw [List.length_append]; exact f1.odd rs (fun k hk => .inr (by simp at hk; subst hk; exact ⟨_, _, o1, by decide⟩)), (h.fr.trans' q (fun k hk _ => (h.fns.row.lt k hk).1)).trans' rs (fun k hk _ => by simp at hk; omega), h.lo, List.pairwise_append.2 ⟨h.sep, List.pairwise_singleton _ _, fun q hq x hx => by rw [List.mem_singleton] at hx; rw [hx]; exact hs q hq⟩⟩
  have := heap_setCell (o := 1) (v := .slice ga (l.length + 1) gc) o1
  simpa using this
theorem CN.modIn {wr : World} {m : Mx} {tb : Nat} {box : Array Value} {xa oa : Option Addr} {xc oc : Nat} {l : List FxV} (h : CN w wr m tb box xa xc oa oc l) (he : l.map Prod.fst = m.f) : ModIn wr m xa xc oa := by
  obtain ⟨a, c, h1, h2⟩ := h.fns.read
  cases h1
  exact ⟨owns_reads h.data, he ▸ h2⟩
/-- a module of the call's own -/
structure ModSep (w : World) (base : Nat) (m : Mx) (xa : Option Addr) (xc : Nat) (oa : Option Addr) (oc : Nat) : Prop where
  data : w.ownsRow base 5 1 (.slice xa m.d.length xc) m.d.length (u8s m.d)
  fns : ∃ l : List FxV, l.map Prod.fst = m.f ∧ FnsOwn w base (.slice oa m.f.length oc) l ∧ l.Pairwise SepV
set_option maxRecDepth 100000 in
set_option maxHeartbeats 16000000 in
theorem copysep_ok (w : World) (m : Mx) (da : Option Addr) (dc : Nat) (fa : Option Addr) (fc : Nat) (hm : ModIn w m da dc fa) (hs : m.Small) :
    Calls Tryz.prog 19 #[.agg #[.slice da m.d.length dc, .slice fa m.f.length fc]] w fun e w' => ∃ a c a' c', e = .returned (.agg #[.slice a m.d.length c, .slice a' m.f.length c']) ∧ ModSep w' w.heap.size m a c a' c' ∧ Fr no w w' := by
  have HM := Lib.hid hm
  have HS := Lib.hid hs
  have hs1 := hs.data
  have hs2 := hs.fns
  have r1 := (Fr.refl no w).alloc (.cells #[.slice da m.d.length dc, .slice fa m.f.length fc] 38)
  have r2 := r1.alloc (.cells #[.slice none 0 0, .slice none 0 0] 38)
  have q2 := (Fr.refl no (w.alloc (.cells #[.slice da m.d.length dc, .slice fa m.f.length fc] 38))).alloc (.cells #[.slice none 0 0, .slice none 0 0] 38)
  have B2 := Lib.hid (q2.heap (modObj w (.slice da m.d.length dc) (.slice fa m.f.length fc)) (by simp))
  have z2 := modObj (w.alloc (.cells #[.slice da m.d.length dc, .slice fa m.f.length fc] 38)) (.slice none 0 0) (.slice none 0 0)
  rw [World.size_alloc] at z2
  have Z2 := Lib.hid z2
  have R2 := Lib.hid r2
  have CB := Lib.hid (copybytes_ok _ _ m.d (hm.data.fr r2 (by simp)) (by omega))
  have S2 : Hid (((w.alloc (.cells #[.slice da m.d.length dc, .slice fa m.f.length fc] 38)).alloc (.cells #[.slice none 0 0, .slice none 0 0] 38)).heap.size = w.heap.size + 2) := Lib.hid (by rw [World.size_alloc, World.size_alloc])
  clear r1 r2 q2 z2 hm hs
  go_enter Tryz.func19, Tryz.ntmps19
  obtain ⟨c0, c1⟩ := cells2 B2.out
  go_wp2_with fail
  refine CB.out.mono ?_
  rintro e w3 ⟨x, rfl, hx, r3⟩
  obtain ⟨xa, xc, rfl⟩ := owns_shape hx
  have r4 := (Fr.refl no w3).alloc (.cells #[.slice xa m.d.length xc, .slice none 0 0] 38)
  obtain ⟨tb, htb⟩ : ∃ b, b = w3.heap.size := ⟨_, rfl⟩
  have C4 : Hid (CN w (w3.alloc (.cells #[.slice xa m.d.length xc, .slice none 0 0] 38)) m w3.heap.size #[.slice da m.d.length dc, .slice fa m.f.length fc] xa xc none 0 []) := Lib.hid (by
    have hsz := r3.size
    rw [S2.out] at hsz
    exact ⟨heap_new _ _, r4.heap (r3.heap B2.out (by simp)) (by simp), r4.heap (r3.heap Z2.out (by simp)) (by simp), owns_fr (owns_base hx (fun k hk => by have := (hx.lt k hk).1; rw [S2.out] at this; omega)) r4 (by simp), ⟨World.ownsRow_nil _ _ _ _, fun p hp => (by cases hp)⟩, R2.out.trans (r3.trans r4), by omega, List.Pairwise.nil⟩)
  rw [← htb] at C4
  clear r3 r4 hx CB c0 c1 B2 Z2 S2 R2
  go_wp2_with fail
  try rw [← htb]
  clear htb
  go_loopw [4] (fun x wr => ∃ (l : List FxV) (oa : Option Addr) (oc : Nat), l.length ≤ m.f.length ∧ x = .int .i64 l.length ∧ Hid (l.map Prod.fst = m.f.take l.length) ∧ Hid (CN w wr m tb #[.slice da m.d.length dc, .slice fa m.f.length fc] xa xc oa oc l)) (fun x _ => (m.f.length - intOf x).toNat)
  case atStart => exact ⟨[], none, 0, by simp, rfl, Lib.hid rfl, C4⟩
  case round =>
    obtain ⟨l, oa, oc, hk, rfl, hpre, C0⟩ := hrel
    obtain ⟨c0, c1⟩ := cells2 C0.out.box
    by_cases hks : l.length < m.f.length
    · have hks' : (l.length : Int) < m.f.length := by omega
      have FI := HM.out.fns.fr C0.out.fr
      obtain ⟨b, of, ca, cc, rfl, hi⟩ := FI l.length hks
      obtain ⟨d0, d1, d2, d3⟩ := hi.four
      have hsm := HS.out.each _ (List.getElem_mem hks)
      obtain ⟨fx, hfx⟩ : ∃ i, i = m.f[l.length] := ⟨_, rfl⟩
      have HSN : Hid (l.map Prod.fst ++ [fx] = m.f.take (l.length + 1)) := Lib.hid (by rw [List.take_succ_eq_append_getElem hks, hpre.out, hfx])
      have CODE := hi.code
      rw [← hfx] at d0 d1 d2 d3 CODE hsm
      clear hi FI hfx
      obtain ⟨fp, fr, far, fcode⟩ := fx
      obtain ⟨hsm1, hsm2⟩ := hsm
      dsimp only at hsm1 hsm2 d0 d1 d2 d3 CODE
      have r1 := (Fr.refl no wr).alloc (.cells #[.int .i64 fp, .int .i64 fr, .int .i64 far, .slice ca fcode.length cc] 50)
      have C1 := Lib.hid (C0.out.fn r1)
      have F1 := Lib.hid (fnObj wr fp fr far (.slice ca fcode.length cc))
      have J1 := Lib.hid (copycode_own _ ca cc fcode (CODE.fr r1) (by omega) (fun i hi => by have := hsm2 i hi; omega))
      have SZ1 : Hid (w.heap.size ≤ (wr.alloc (.cells #[.int .i64 fp, .int .i64 fr, .int .i64 far, .slice ca fcode.length cc] 50)).heap.size) := Lib.hid C1.out.fr.size
      have LT0 : Hid (tb < wr.heap.size) := Lib.hid (Array.getElem?_eq_some_iff.1 C0.out.obj).1
      have NE0 : Hid (∀ k, (Value.slice oa l.length oc).ownBlock = some k → k ≠ wr.heap.size) := Lib.hid (fun k hk => by have := (C0.out.fns.row.lt k hk).2; omega)
      have f3 := frozen_of_heap (o := 3) F1.out
      obtain ⟨f0, f1, f2, f3'⟩ := cells4 F1.out
      clear r1 CODE hsm1 hsm2
      go_wp2_with fail
      refine J1.out.mono ?_
      rintro e w4 ⟨va, vc, rfl, hv, r4⟩
      have CO4 := Lib.hid (CodeOwn.base hv SZ1.out)
      have SEP4 : Hid (∀ q ∈ l, SepV q ((⟨fp, fr, far, fcode⟩ : Fx), va, vc)) := Lib.hid (fun q hq k h1 h2 => by
        have e1 := ((C1.out.fns.code q hq).lt h1).2
        have e2 := (hv.lt h2).1
        omega)
      have C4 := Lib.hid (C1.out.fn r4)
      have F4 := Lib.hid (r4.heap F1.out (by simp))
      obtain ⟨fb, hfb⟩ : ∃ b, b = wr.heap.size := ⟨_, rfl⟩
      rw [← hfb] at F4 NE0 LT0
      have g3 := frozen_of_heap (o := 3) F4.out
      clear hv r4 J1 C0 C1 F1 SZ1 c0 c1 d0 d1 d2 d3 f0 f1 f2 f3 f3'
      try rw [← hfb]
      clear hfb
      obtain ⟨c0, c1⟩ := cells2 C4.out.box
      obtain ⟨f0, f1, f2, f3'⟩ := cells4 F4.out
      go_upto_region 7 with fail
      have rz : Fr (only [fb]) w4 (w4.setCell ⟨fb, 3, none⟩ (.slice va fcode.length vc)) := (Fr.refl _ w4).setCell _ _ (.inl (by simp))
      have C5 := Lib.hid (C4.out.turn rz F4.out NE0.out (by have := C4.out.lo; have := LT0.out; omega) (by have := LT0.out; omega))
      have F5 : Hid ((w4.setCell ⟨fb, 3, none⟩ (.slice va fcode.length vc)).heap[fb]? = some (.cells #[.int .i64 fp, .int .i64 fr, .int .i64 far, .slice va fcode.length vc] 50 (0, 0))) := Lib.hid (by
        have := heap_setCell (o := 3) (v := .slice va fcode.length vc) F4.out
        simpa using this)
      have O5 := Lib.hid (CO4.out.odd (ts := [47, 3]) rz (fun k hk => .inr (by simp at hk; subst hk; exact ⟨_, _, F4.out, by decide⟩)) (by simp) (by simp))
      clear rz C4 F4 CO4 g3 c0 c1 f0 f1 f2 f3' NE0 LT0
      generalize w4.setCell ⟨fb, 3, none⟩ (.slice va fcode.length vc) = wz at *
      have r6 := (Fr.refl no wz).alloc (.cells #[.int .i64 fp, .int .i64 fr, .int .i64 far, .slice va fcode.length vc] 50)
      have C6 := Lib.hid (C5.out.fn r6)
      have O6 := Lib.hid (O5.out.fn r6)
      have R6 := Lib.hid (reads_four wz (.int .i64 fp) (.int .i64 fr) (.int .i64 far) (.slice va fcode.length vc) 50)
      obtain ⟨t0, t1⟩ := cells2 C5.out.obj
      obtain ⟨f0, f1, f2, f3⟩ := cells4 F5.out
      clear r6 C5 O5
      go_wp2_with (at_builtin; (refine wpList_append_at rfl (.tmp 27) _ 36 rfl w.heap.size 50 (.agg zeroFn) 4 48 Tryz.underlying36 Tryz.infoFunc3 rfl (by decide) _ l.length _ rfl C6.out.fns.row 1 _ R6.out (four_one _ _ _ _ _ _ ()) (by unfold maxLen; omega) (by omega) C6.out.fr.size ?_); intro ga gc wg ho hg hb; have C7 := Lib.hid (C6.out.app (p := ((⟨fp, fr, far, fcode⟩ : Fx), va, vc)) O6.out SEP4.out hg ho); have ob := ((Fr.refl (fun k => (Value.slice oa l.length oc).ownBlock = some k) _).grown hg (fun k hk => .inl hk)).heap C6.out.obj (row_block_ne C6.out.fns.row C6.out.obj (by decide)); have x1 := cell_of_heap (o := 1) ob rfl; have y1 := frozen_of_heap (o := 1) ob; clear ho hg hb ob)
      go_roundw
      case rel => exact ⟨l ++ [((⟨fp, fr, far, fcode⟩ : Fx), va, vc)], _, _, by simp; omega, by rw [List.length_append]; go_num, Lib.hid (by rw [List.map_append, List.length_append]; exact HSN.out), C7⟩
      case measure => first | (simp [intOf]; done) | (simp [intOf]; omega)
    · have hlk : l.length = m.f.length := by omega
      have HLK := Lib.hid hlk
      have HE : Hid (l.map Prod.fst = m.f) := Lib.hid (by rw [hpre.out, hlk, List.take_length])
      obtain ⟨t0, t1⟩ := cells2 C0.out.obj
      obtain ⟨s0, s1⟩ := cells2 C0.out.res
      have g0 := frozen_of_heap (o := 0) C0.out.res
      have g1 := frozen_of_heap (o := 1) C0.out.res
      clear hlk hpre
      go_wp2_with fail
      have rr : Fr (only [w.heap.size + 1]) wr ((wr.setCell ⟨w.heap.size + 1, 0, none⟩ (.slice xa m.d.length xc)).setCell ⟨w.heap.size + 1, 1, none⟩ (.slice oa l.length oc)) := ((Fr.refl _ wr).setCell _ _ (.inl (by simp))).setCell _ _ (.inl (by simp))
      have hh := heap_setCell (o := 1) (v := .slice oa l.length oc) (heap_setCell (o := 0) (v := .slice xa m.d.length xc) C0.out.res)
      have DD := owns_fr C0.out.data rr (fun k hk e => by simp at e; subst e; exact row_block_ne C0.out.data C0.out.res (by decide) hk)
      have FF := C0.out.fns.odd rr (fun k hk => .inr (by simp at hk; subst hk; exact ⟨_, _, C0.out.res, by decide⟩))
      refine bodyPost_ret (results_one rfl rfl (load_mod _ _ (.slice xa m.d.length xc) (.slice oa l.length oc) (by simpa using hh))) rfl ?_
      refine ⟨xa, xc, oa, oc, by rw [HLK.out], ?_, C0.out.fr.trans' rr (fun k hk _ => by simp at hk; omega)⟩
      exact ⟨DD, l, HE.out, by rw [← HLK.out]; exact FF, C0.out.sep⟩

end Go.Proofs.YtofahdjnejodjaaGreat

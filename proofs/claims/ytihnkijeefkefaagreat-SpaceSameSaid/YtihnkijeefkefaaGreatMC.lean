import Derived.Test.YtihnkijeefkefaaGreatMB
import Derived.Test.YtihnkijeefkefaaGreatMA
import Derived.Test.YtihnkijeefkefaaGreatLE
set_option linter.unusedSimpArgs false
set_option linter.unusedVariables false
set_option linter.unusedSectionVars false
set_option linter.unnecessarySimpa false
set_option maxRecDepth 100000
/- kit's CopyModule. -/
namespace Go.Proofs.YtihnkijeefkefaaGreat
open Go.RowKit

attribute [local go_sem] Program.isFuncB Program.isSliceB

variable {w w' w'' w0 : World}

theorem CodeOwn.base {base base' : Nat} {v : Value} {is : List Ix} (h : CodeOwn w base v is) (hb : base' ≤ base) : CodeOwn w base' v is := by
  obtain ⟨l, e, h3, h4⟩ := h
  exact ⟨l, e, owns_base h3 (fun k hk => Nat.le_trans hb (h3.lt k hk).1), fun p hp => owns_base (h4 p hp) (fun k hk => Nat.le_trans hb ((h4 p hp).lt k hk).1)⟩

/-- instructions in memory of their own -/
theorem copycode_own (w : World) (sa : Option Addr) (c : Nat) (is : List Ix) (hin : CodeIn w sa is) (hlen : is.length ≤ 100000) (hargs : ∀ i ∈ is, i.l.length ≤ 100000) :
    Calls Tryz.prog 112 #[.slice sa is.length c] w fun e w' => ∃ a c', e = .returned (.slice a is.length c') ∧ CodeOwn w' w.heap.size (.slice a is.length c') is ∧ Fr no w w' := by
  have HIN := Lib.hid hin
  have HAR := Lib.hid hargs
  clear hin hargs
  go_enter Tryz.func112, Tryz.ntmps112
  go_wp2_with fail
  go_loopw [3, 4] (fun x y wr => ∃ l : List (Ix × Value), l.length ≤ is.length ∧ y = .int .i64 l.length ∧ Hid (l.map Prod.fst = is.take l.length) ∧ Hid (CC w wr x l)) (fun _ y _ => (is.length - intOf y).toNat)
  case atStart => exact ⟨[], by simp, rfl, Lib.hid rfl, Lib.hid ⟨Fr.refl _ _, World.ownsRow_nil _ _ _ _, fun p hp => (by cases hp)⟩⟩
  case round =>
    obtain ⟨l, hk, rfl, hpre, hcc⟩ := hrel
    obtain ⟨xa, xc, rfl⟩ := owns_shape hcc.out.out
    by_cases hks : l.length < is.length
    · have hks' : (l.length : Int) < is.length := by omega
      obtain ⟨b, of, u, rfl, hi⟩ := HIN.out.fr hcc.out.fr l.length hks
      obtain ⟨ua, uc, rfl⟩ := hi.args.shape
      obtain ⟨c0, c1, c2, c3, c4, c5⟩ := hi.six
      obtain ⟨ix, hix⟩ : ∃ i, i = is[l.length] := ⟨_, rfl⟩
      have HSN : Hid (l.map Prod.fst ++ [ix] = is.take (l.length + 1)) := Lib.hid (by rw [List.take_succ_eq_append_getElem hks, hpre.out, hix])
      have HPP := Lib.hid (copyins_ok wr ix.o ix.A ix.B ix.C ix.N _ ix.l (by rw [hix]; exact hi.args) (by rw [hix]; exact HAR.out _ (List.getElem_mem hks)))
      rw [← hix] at c0 c1 c2 c3 c4 c5 HPP
      clear hi hix
      obtain ⟨io, iA, iB, iC, iN, il⟩ := ix
      dsimp only at c0 c1 c2 c3 c4 c5 HPP
      unfold insV at HPP
      go_wp2_with fail
      refine HPP.out.mono ?_
      rintro e w5 ⟨v, rfl, hv, r5⟩
      obtain ⟨va, vc, rfl⟩ := owns_shape hv
      have r6 := r5.alloc (.cells #[.int .i64 io, .int .i64 iA, .int .i64 iB, .int .i64 iC, .int .i64 iN, .slice va il.length vc] 112)
      have HC6 := Lib.hid (hcc.out.to r6)
      have HV6 := Lib.hid (owns_base (base' := w.heap.size) (owns_fr hv ((Fr.refl no w5).alloc (.cells #[.int .i64 io, .int .i64 iA, .int .i64 iB, .int .i64 iC, .int .i64 iN, .slice va il.length vc] 112)) (by simp)) (fun k hk => by have := (hv.lt k hk).1; have := hcc.out.fr.size; omega))
      have HR6 := Lib.hid (reads_six w5 (.int .i64 io) (.int .i64 iA) (.int .i64 iB) (.int .i64 iC) (.int .i64 iN) (.slice va il.length vc) 112)
      clear r5 r6 hv c0 c1 c2 c3 c4 c5 hcc
      go_wp2_with (at_builtin; (refine wpList_append_at rfl (.tmp 11) _ 39 rfl w.heap.size 112 (.agg zeroIns) 6 64 Tryz.underlying39 Tryz.infoIns3 rfl (by decide) _ l.length _ rfl HC6.out.out 1 _ HR6.out (six_one _ _ _ _ _ _ _ _ ()) (by unfold maxLen; omega) (by omega) HC6.out.fr.size ?_); intro gd ge w7 ho hg hb)
      have HC7 := Lib.hid (HC6.out.app (i := ⟨io, iA, iB, iC, iN, il⟩) (u := .slice va il.length vc) HV6.out ho hg)
      clear ho hg hb
      go_roundw
      case rel => exact ⟨l ++ [(⟨io, iA, iB, iC, iN, il⟩, .slice va il.length vc)], by simp; omega, by rw [List.length_append]; go_num, Lib.hid (by rw [List.map_append, List.length_append]; exact HSN.out), HC7⟩
      case measure => first | (simp [intOf]; done) | (simp [intOf]; omega)
    · have hlk : l.length = is.length := by omega
      have HLK := Lib.hid hlk
      have HQ : Hid (CodeOwn wr w.heap.size (.slice xa is.length xc) is) := Lib.hid (by
        refine ⟨l, by rw [hpre.out, hlk, List.take_length], ?_, hcc.out.args⟩
        rw [← hlk]
        exact hcc.out.out)
      have R := Lib.hid hcc.out.fr
      clear hcc hpre hlk
      go_wp2_with fail
      go_ret
      exact ⟨xa, xc, by rw [← HLK.out]; rfl, HQ.out, R.out⟩

structure CM (w wr : World) (m : Mx) (tb : Nat) (box : Array Value) (xa : Option Addr) (xc : Nat) (oa : Option Addr) (oc : Nat) (l : List FxV) : Prop where
  obj : wr.heap[tb]? = some (.cells #[.slice xa m.d.length xc, .slice oa l.length oc] 25 (0, 0))
  box : wr.heap[w.heap.size]? = some (.cells box 25 (0, 0))
  res : wr.heap[w.heap.size + 1]? = some (.cells #[.slice none 0 0, .slice none 0 0] 25 (0, 0))
  data : wr.ownsRow w.heap.size 5 1 (.slice xa m.d.length xc) m.d.length (u8s m.d)
  fns : FnsOwn wr w.heap.size (.slice oa l.length oc) l
  fr : Fr no w wr
  lo : w.heap.size + 1 < tb
/-- a module of the call's own -/
structure ModOwn (w : World) (base : Nat) (m : Mx) (xa : Option Addr) (xc : Nat) (oa : Option Addr) (oc : Nat) : Prop where
  data : w.ownsRow base 5 1 (.slice xa m.d.length xc) m.d.length (u8s m.d)
  fns : ∃ l : List FxV, l.map Prod.fst = m.f ∧ FnsOwn w base (.slice oa m.f.length oc) l
theorem ModOwn.odd {S : Nat → Prop} {base : Nat} {m : Mx} {xa oa : Option Addr} {xc oc : Nat} (h : ModOwn w base m xa xc oa oc) (r : Fr S w w') (ho : Odd w S [5, 41, 112, 3]) : ModOwn w' base m xa xc oa oc := by
  obtain ⟨h1, l, h2, h3⟩ := h
  refine ⟨owns_odd h1 r ho (by simp), l, h2, h3.odd r (fun k hk => ?_)⟩
  rcases ho k hk with h | ⟨cs, t, e1, e2⟩
  · exact .inl h
  · exact .inr ⟨cs, t, e1, fun e => e2 (List.mem_cons_of_mem _ e)⟩
theorem ModOwn.base {base base' : Nat} {m : Mx} {xa oa : Option Addr} {xc oc : Nat} (h : ModOwn w base m xa xc oa oc) (hb : base' ≤ base) : ModOwn w base' m xa xc oa oc := by
  obtain ⟨h1, l, h2, h3⟩ := h
  exact ⟨owns_base h1 (fun k hk => Nat.le_trans hb (h1.lt k hk).1), l, h2, ⟨owns_base h3.row (fun k hk => Nat.le_trans hb (h3.row.lt k hk).1), fun p hp => (h3.code p hp).base hb⟩⟩
theorem ModOwn.modIn {base : Nat} {m : Mx} {xa oa : Option Addr} {xc oc : Nat} (h : ModOwn w base m xa xc oa oc) : ModIn w m xa xc oa := by
  obtain ⟨h1, l, h2, h3⟩ := h
  obtain ⟨a, c, h4, h5⟩ := h3.read
  injection h4 with e1 e2 e3
  subst e1
  exact ⟨owns_reads h1, h2 ▸ h5⟩
theorem results_one {P : Program} {fn : Func} {tmps : Array Value} {w : World} {d1 : Tmp} {t1 : TypeId} {a1 : Addr} {v1 : Value} (hr : fn.results = #[.cell d1 t1])
    (h1 : tmps.getD d1 undef = .pointer (some a1)) (l1 : (loadVar t1 a1).run P w = .ok v1 w) : (results fn tmps).run P w = .ok v1 w := by
  have h1' : tmps[d1]?.getD undef = .pointer (some a1) := by rw [← h1]; simp [Array.getD_eq_getD_getElem?]
  simp only [results, hr]
  simp [h1', asAddr, l1]

end Go.Proofs.YtihnkijeefkefaaGreat

/- The plain law of modules' bytes: Get is Put's inverse, and Put is Get's. -/
namespace Go.Proofs.YtihnkijeefkefaaGreat

end Go.Proofs.YtihnkijeefkefaaGreat

/- The plain law of modules' bytes: what is read is put as it was; where a fault is. -/
namespace Go.Proofs.YtihnkijeefkefaaGreat

/-! ### backward -/
end Go.Proofs.YtihnkijeefkefaaGreat

/- The plain law of modules' bytes: Get's answer, backward; faults lie within. -/
namespace Go.Proofs.YtihnkijeefkefaaGreat

end Go.Proofs.YtihnkijeefkefaaGreat

/- law08's bytes, echo, fails, awake. -/
namespace Go.Proofs.YtihnkijeefkefaaGreat
open Go.RowKit

attribute [local go_sem] Program.isFuncB Program.isSliceB

variable {w w' w'' w0 : World}

end Go.Proofs.YtihnkijeefkefaaGreat

/- ModuleKnown's walk. -/
namespace Go.Proofs.YtihnkijeefkefaaGreat
open Go.RowKit

attribute [local go_sem] Program.isFuncB Program.isSliceB

variable {w w' w'' w0 : World}

end Go.Proofs.YtihnkijeefkefaaGreat

/- A module that was handed in, opened; kit's LongModule. -/
namespace Go.Proofs.YtihnkijeefkefaaGreat
open Go.RowKit

attribute [local go_sem] Program.isFuncB Program.isSliceB

variable {w w' w'' w0 : World}

theorem len_four : ∀ (es : List Value), es.length = 4 → ∃ a b c d, es = [a, b, c, d]
  | [a, b, c, d], _ => ⟨a, b, c, d, rfl⟩
/-- numbers that are some, of lengths that are some -/
structure Mx.Raw (m : Mx) : Prop where
  data : m.d.length ≤ maxLen
  fns : m.f.length ≤ maxLen
  code : ∀ f ∈ m.f, f.c.length ≤ maxLen
  args : ∀ f ∈ m.f, ∀ i ∈ f.c, i.l.length ≤ maxLen
  n : ∀ f ∈ m.f, ∀ i ∈ f.c, rng i.N
  lt : ∀ b ∈ m.d, b < 256
def Few (f : Fx) : Prop := f.c.length ≤ 60 ∧ ∀ i ∈ f.c, i.l.length ≤ 20
def LongM (w : World) (m : Mx) (e : Ending) (w' : World) : Prop := ∃ q : Bool, e = .returned (.bool q) ∧ (q = false → m.d.length ≤ 300 ∧ m.f.length ≤ 6 ∧ ∀ f ∈ m.f, Few f) ∧ Fr no w w'
theorem LongM.of {m : Mx} (q : Bool) (hq : q = false → m.d.length ≤ 300 ∧ m.f.length ≤ 6 ∧ ∀ f ∈ m.f, Few f) (r : Fr no w w') : LongM w m (.returned (.bool q)) w' := ⟨q, rfl, hq, r⟩
theorem LongM.small {m : Mx} (hr : m.Raw) (h : m.d.length ≤ 300 ∧ m.f.length ≤ 6 ∧ ∀ f ∈ m.f, Few f) : m.Small :=
  ⟨by omega, by omega, fun f hf => ⟨by have := (h.2.2 f hf).1; omega, fun i hi => by have := (h.2.2 f hf).2 i hi; omega⟩, hr.lt⟩

set_option maxRecDepth 100000 in
set_option maxHeartbeats 8000000 in
theorem longm_ok (w : World) (m : Mx) (da : Option Addr) (dc : Nat) (fa : Option Addr) (fc : Nat) (hm : ModIn w m da dc fa) (hr : m.Raw) :
    Calls Tryz.prog 12 #[.agg #[.slice da m.d.length dc, .slice fa m.f.length fc]] w (LongM w m) := by
  obtain ⟨ds, fs⟩ := m
  obtain ⟨q1, q2, q3, q4, -, -⟩ := hr
  dsimp only at q1 q2 q3 q4 ⊢
  unfold maxLen at q1 q2 q3 q4
  have HC := Lib.hid q3
  have HAR := Lib.hid q4
  have HI := Lib.hid (modObj w (.slice da ds.length dc) (.slice fa fs.length fc))
  have r0 := (Fr.refl no w).alloc (.cells #[.slice da ds.length dc, .slice fa fs.length fc] 25)
  have R0 := Lib.hid r0
  have HF := Lib.hid (hm.fns.fr r0)
  clear q3 q4 r0 hm
  go_enter Tryz.func12, Tryz.ntmps12
  obtain ⟨c0, c1⟩ := cells2 HI.out
  by_cases h1 : 300 < ds.length
  · have h1' : (300 : Int) < ds.length := by omega
    go_wp2_with fail
    go_ret
    exact LongM.of true (fun h => by cases h) R0.out
  have h1' : ¬ (300 : Int) < ds.length := by omega
  by_cases h2 : 6 < fs.length
  · have h2' : (6 : Int) < fs.length := by omega
    go_wp2_with fail
    go_ret
    exact LongM.of true (fun h => by cases h) R0.out
  have h2' : ¬ (6 : Int) < fs.length := by omega
  go_wp2_with fail
  generalize w.alloc (.cells #[.slice da ds.length dc, .slice fa fs.length fc] 25) = wz at *
  go_loopw [3] (fun x wr => ∃ k : Nat, k ≤ fs.length ∧ x = .int .i64 k ∧ Hid (∀ f ∈ fs.take k, Few f) ∧ wr = wz) (fun x _ => (fs.length - intOf x).toNat)
  case atStart => exact ⟨0, by omega, rfl, Lib.hid (by simp), rfl⟩
  case round =>
    obtain ⟨k, hk, rfl, hpre, rfl⟩ := hrel
    by_cases hks : k < fs.length
    · have hks' : (k : Int) < fs.length := by omega
      obtain ⟨b, of, ca, cc, rfl, hi⟩ := HF.out k hks
      have d3 := hi.four.2.2.2
      have hcl := HC.out _ (List.getElem_mem hks)
      have HCI := Lib.hid hi.code
      have HA2 := Lib.hid (HAR.out _ (List.getElem_mem hks))
      have HN : Hid (Few fs[k] → ∀ f ∈ fs.take (k + 1), Few f) := Lib.hid (fun h f hf => by
        rw [List.take_succ_eq_append_getElem hks, List.mem_append, List.mem_singleton] at hf
        rcases hf with hf | rfl
        · exact hpre.out f hf
        · exact h)
      have HFW : Hid (Few fs[k] ↔ fs[k].c.length ≤ 60 ∧ ∀ i ∈ fs[k].c, i.l.length ≤ 20) := Lib.hid Iff.rfl
      generalize Few fs[k] = few at *
      generalize fs[k].c = is at *
      clear hi
      by_cases h3 : 60 < is.length
      · have h3' : (60 : Int) < is.length := by omega
        go_wp2_with fail
        go_ret
        exact LongM.of true (fun h => by cases h) R0.out
      have h3' : ¬ (60 : Int) < is.length := by omega
      obtain ⟨wy, hwy⟩ : ∃ x, x = wr := ⟨_, rfl⟩
      subst hwy
      go_wp2_with fail
      go_loopw [4] (fun x wr => ∃ j : Nat, j ≤ is.length ∧ x = .int .i64 j ∧ Hid (∀ i ∈ is.take j, i.l.length ≤ 20) ∧ wr = wy) (fun x _ => (is.length - intOf x).toNat)
      case atStart => exact ⟨0, by omega, rfl, Lib.hid (by simp), rfl⟩
      case round =>
        obtain ⟨j, hj, rfl, hp2, rfl⟩ := hrel
        by_cases hjs : j < is.length
        · have hjs' : (j : Int) < is.length := by omega
          obtain ⟨b2, of2, u, rfl, hi⟩ := HCI.out j hjs
          obtain ⟨ua, uc, rfl⟩ := hi.args.shape
          have c5 := hi.six.2.2.2.2.2
          have hal := HA2.out is[j] (List.getElem_mem _)
          have HN2 : Hid (is[j].l.length ≤ 20 → ∀ i ∈ is.take (j + 1), i.l.length ≤ 20) := Lib.hid (fun h i hi => by
            rw [List.take_succ_eq_append_getElem hjs, List.mem_append, List.mem_singleton] at hi
            rcases hi with hi | rfl
            · exact hp2.out i hi
            · exact h)
          generalize is[j].l.length = al at *
          clear hi
          by_cases h20 : al ≤ 20
          · have h20' : ¬ (20 : Int) < al := by omega
            have HN3 := Lib.hid (HN2.out h20)
            go_wp2_with fail
            go_roundw
            case rel => exact ⟨j + 1, by omega, by go_num, HN3, by trivial⟩
            case measure => first | (simp [intOf]; done) | (simp [intOf]; omega)
          · have h20' : (20 : Int) < al := by omega
            go_wp2_with fail
            go_ret
            exact LongM.of true (fun h => by cases h) R0.out
        · obtain rfl : j = is.length := by omega
          have HP : Hid few := Lib.hid (HFW.out.2 ⟨by omega, by have := hp2.out; rwa [List.take_length] at this⟩)
          have HP2 := Lib.hid (HN.out HP.out)
          go_wp2_with fail
          go_roundw
          case rel => exact ⟨k + 1, by omega, by go_num, HP2, by trivial⟩
          case measure => first | (simp [intOf]; done) | (simp [intOf]; omega)
    · obtain rfl : k = fs.length := by omega
      have HP := hpre.out
      rw [List.take_length] at HP
      have HPH := Lib.hid HP
      clear HP hpre
      go_wp2_with fail
      go_ret
      exact LongM.of false (fun _ => ⟨by show ds.length ≤ 300; omega, by show fs.length ≤ 6; omega, HPH.out⟩) R0.out

end Go.Proofs.YtihnkijeefkefaaGreat

/- twinshaftref08: function, Check. -/
namespace Go.Proofs.YtihnkijeefkefaaGreat
open Go.RowKit

attribute [local go_sem] Program.isFuncB Program.isSliceB

variable {w w' w'' w0 : World}

end Go.Proofs.YtihnkijeefkefaaGreat

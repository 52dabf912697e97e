/- A field by its name; a type in memory of its own (law24). -/
import Derived.Test.YtjpkmaacalelcaaDoorY13
set_option linter.unusedSimpArgs false
set_option linter.unusedVariables false
set_option linter.unusedSectionVars false
set_option linter.unnecessarySimpa false
set_option maxRecDepth 100000
namespace Go.Ty
def fdI (l : List Fd) (s : ByteArray) : Int := match l.findIdx? (fun f => decide (f.nm = s)) with | some i => i | none => -1
end Go.Ty
namespace Go.Proofs.YtjpkmaacalelcaaDoor
open Go.RowKit Go.Ty Go.Deep

attribute [local go_sem] Program.isFuncB Program.isSliceB

variable {w w' w'' w0 : World}

theorem isField_ok (w : World) (nm s : ByteArray) (u v x : Value) (B : Nat) (hB : w.heap[B]? = some (.cells #[.string s] 9 (0, 0))) :
    Calls Tryd.prog 52 #[.agg #[.string nm, u, v, x], .pointer (some ⟨B, 0, none⟩)] w fun e w' => e = .returned (.bool (decide (nm = s))) ∧ Fr no w w' := by
  have r0 := (Fr.refl no w).alloc (.cells #[.string nm, u, v, x] 55)
  obtain ⟨f0, f1, f2, f3⟩ := ce4 (heap_new w (.cells #[.string nm, u, v, x] 55))
  have g0 := ce1 (r0.heap hB (by simp))
  have R0 := Lib.hid r0
  clear r0 hB
  by_cases h : nm = s
  · subst h
    rw [decide_eq_true rfl]
    go_enter Tryd.func52, Tryd.ntmps52
    go_wp2_with fail
    go_ret
    exact ⟨rfl, R0.out⟩
  · have hz : (nm.toList == s.toList) = false := by rw [bytes_eq, decide_eq_false h]
    rw [decide_eq_false h]
    go_enter Tryd.func52, Tryd.ntmps52
    go_wp2_with fail
    go_ret
    exact ⟨rfl, R0.out⟩

set_option maxHeartbeats 1000000 in
theorem indexField (w : World) (fa : Option Addr) (fc : Nat) (l : List Ty.Fd) (hv : FsIn w fa l) (hl : l.length ≤ 1000000) (s : ByteArray) (B : Nat) (hB : w.heap[B]? = some (.cells #[.string s] 9 (0, 0))) :
    Calls Tryd.prog 51 #[.slice fa l.length fc, .func (.func 52) #[] #[.pointer (some ⟨B, 0, none⟩)]] w fun e w' => e = .returned (.int .i64 (fdI l s)) ∧ Fr no w w' := by
  have HV := Lib.hid hv
  have HB := Lib.hid hB
  clear hv hB
  go_enter Tryd.func51, Tryd.ntmps51
  go_wp2_with fail
  go_loopw [8] (fun x wr => ∃ i : Nat, x = .int .i64 i ∧ i ≤ l.length ∧ Hid (∀ j (hj : j < l.length), j < i → decide (l[j].nm = s) = false) ∧ Hid (Fr no w wr)) (fun x _ => (l.length - intOf x).toNat)
  case atStart => exact ⟨0, rfl, by omega, Lib.hid fun j hj h => by omega, Lib.hid (Fr.refl _ _)⟩
  case round =>
    obtain ⟨i, rfl, hi, hno, RW⟩ := hrel
    by_cases hlt : i < l.length
    · obtain ⟨b, o, ma, mc, rfl, hA, -⟩ := (HV.out.fr RW.out) i hlt
      have C := Lib.hid (isField_ok wr l[i].nm s (.int .i64 l[i].t.b) (.int .i64 l[i].t.s) (.slice ma l[i].t.ms.length mc) B (RW.out.heap HB.out (by simp)))
      have hlt' : (i : Int) < l.length := by omega
      have AF := Lib.hid hA
      clear hA
      cases hq : decide (l[i].nm = s) with
      | true =>
        have HF : Hid (fdI l s = i) := by
          refine Lib.hid ?_
          have : l.findIdx? (fun f => decide (f.nm = s)) = some i := by
            rw [List.findIdx?_eq_some_iff_getElem]
            exact ⟨hlt, hq, fun j hj => by rw [hno.out j (by omega) hj]; simp⟩
          unfold fdI; rw [this]
        rw [hq] at C
        generalize l[i] = z at *
        obtain ⟨nm, tb, ts, tms⟩ := z
        dsimp only at *
        clear hq
        go_wp2_with (refine wpList_load_in rfl 55 (.tmp 14) rfl b (o + i * 4) rfl [.string nm, .int .i64 tb, .int .i64 ts, .slice ma tms.length mc] _ AF.out Tryd.underlying55 rfl (by rw [infoFd]; rfl) ?_; simp only [Act.put, List.setIfInBounds_toArray, List.set_cons_zero, List.set_cons_succ])
        refine C.out.mono ?_
        rintro e w' ⟨rfl, r⟩
        have R := Lib.hid (RW.out.trans r)
        clear r
        go_wp2_with fail
        go_ret
        exact ⟨by rw [HF.out]; rfl, R.out⟩
      | false =>
        have HNO : Hid (∀ j (hj : j < l.length), j < i + 1 → decide (l[j].nm = s) = false) := Lib.hid fun j hj h => by
          rcases Nat.lt_or_ge j i with h2 | h2
          · exact hno.out j hj h2
          · obtain rfl : j = i := by omega
            exact hq
        rw [hq] at C
        generalize l[i] = z at *
        obtain ⟨nm, tb, ts, tms⟩ := z
        dsimp only at *
        clear hq
        go_wp2_with (refine wpList_load_in rfl 55 (.tmp 14) rfl b (o + i * 4) rfl [.string nm, .int .i64 tb, .int .i64 ts, .slice ma tms.length mc] _ AF.out Tryd.underlying55 rfl (by rw [infoFd]; rfl) ?_; simp only [Act.put, List.setIfInBounds_toArray, List.set_cons_zero, List.set_cons_succ])
        refine C.out.mono ?_
        rintro e w' ⟨rfl, r⟩
        have R := Lib.hid (RW.out.trans r)
        clear r
        go_wp2_with fail
        go_roundw
        case rel => exact ⟨i + 1, by go_num, by omega, HNO, R⟩
        case measure => first | (simp [intOf]; done) | (simp [intOf]; omega)
    · obtain rfl : i = l.length := by omega
      have HF : Hid (fdI l s = -1) := by
        refine Lib.hid ?_
        have : l.findIdx? (fun f => decide (f.nm = s)) = none := by
          rw [List.findIdx?_eq_none_iff]
          intro x hx
          obtain ⟨j, hj, rfl⟩ := List.getElem_of_mem hx
          exact hno.out j hj hj
        unfold fdI; rw [this]
      go_wp2_with fail
      go_ret
      exact ⟨by rw [HF.out]; rfl, RW.out⟩

theorem clone_ok (w : World) (ma : Option Addr) (mc : Nat) (ms : List Int) (hm : TIn w ma mc ms) (hl : ms.length ≤ 100000) :
    Calls Tryd.prog 54 #[.slice ma ms.length mc] w fun e w' => ∃ a c, e = .returned (.slice a ms.length c) ∧ w'.ownsRow w.heap.size 3 1 (.slice a ms.length c) ms.length (ints ms) ∧ Fr no w w' := by
  rcases ma with _ | ⟨b, o, f⟩
  · have h0 : ms.length = 0 := by
      rcases hm with ⟨_, h1, _⟩ | ⟨a, cap, e, _⟩
      · exact h1
      · simp at e
    have e : ms = [] := List.length_eq_zero_iff.1 h0
    subst e
    refine (Tryd.slices_Clone_int_nil 0 mc w).mono ?_
    rintro e w' ⟨rfl, rfl⟩
    exact ⟨none, 0, rfl, World.ownsRow_nil _ _ _ _, Fr.refl _ _⟩
  · by_cases h0 : ms.length = 0
    · have e : ms = [] := List.length_eq_zero_iff.1 h0
      subst e
      refine (Tryd.slices_Clone_int_zero ⟨b, o, f⟩ mc w).mono ?_
      rintro e w' ⟨v, rfl, ho, -, hb⟩
      obtain ⟨a, c, rfl⟩ := owns_shape ho
      exact ⟨a, c, rfl, ho, Fr.of_below hb⟩
    · have hp : 0 < ms.length := by omega
      obtain ⟨b', o', e', -⟩ := hm.at1 (k := 0) (u := .int .i64 ms[0]) (by simp [ints, hp])
      cases e'
      have := Tryd.slices_Clone_int b o ms.length mc ms w (Nat.le_refl _) (by omega) (fun j hj => by
        obtain ⟨b', o', e0, e1⟩ := hm.at1 (k := j) (u := .int .i64 ms[j]) (by simp [ints, hj])
        cases e0
        rw [List.getD_eq_getElem?_getD, List.getElem?_eq_getElem hj]
        exact e1)
      refine this.mono ?_
      rintro e w' ⟨v, rfl, ho, -, hb⟩
      obtain ⟨a, c, rfl⟩ := owns_shape ho
      rw [List.take_length] at ho
      exact ⟨a, c, rfl, ho, Fr.of_below hb⟩

set_option maxHeartbeats 1000000 in
theorem own_ok (w : World) (t : Ty) (ma : Option Addr) (mc : Nat) (hm : TIn w ma mc t.ms) (hl : t.ms.length ≤ 100000) :
    Calls Tryd.prog 53 #[.agg #[.int .i64 t.b, .int .i64 t.s, .slice ma t.ms.length mc]] w fun e w' => ∃ a c, e = .returned (.agg #[.int .i64 t.b, .int .i64 t.s, .slice a t.ms.length c]) ∧ w'.ownsRow w.heap.size 3 1 (.slice a t.ms.length c) t.ms.length (ints t.ms) ∧ Fr no w w' := by
  obtain ⟨tb, ts, tms⟩ := t
  dsimp only at *
  have q1 := (Fr.refl no w).alloc (.cells #[.int .i64 tb, .int .i64 ts, .slice ma tms.length mc] 25)
  have h1 := heap_new w (.cells #[.int .i64 tb, .int .i64 ts, .slice ma tms.length mc] 25)
  have z1 := World.size_alloc w (.cells #[.int .i64 tb, .int .i64 ts, .slice ma tms.length mc] 25)
  have HM := Lib.hid hm
  clear hm
  go_enter Tryd.func53, Tryd.ntmps53
  go_upto_region 1 with fail
  generalize w.alloc (.cells #[.int .i64 tb, .int .i64 ts, .slice ma tms.length mc] 25) = w1 at *
  rw [← z1]
  have q2 := (Fr.refl no w1).alloc (.cells #[.int .i64 0, .int .i64 0, .slice none 0 0] 25)
  have h2 := heap_new w1 (.cells #[.int .i64 0, .int .i64 0, .slice none 0 0] 25)
  have H1 := Lib.hid (q2.heap h1 (by simp))
  have H2 := Lib.hid h2
  have R2 := Lib.hid (q1.trans q2)
  generalize w1.alloc (.cells #[.int .i64 0, .int .i64 0, .slice none 0 0] 25) = w2 at *
  obtain ⟨TB, hTB⟩ : ∃ b, b = w.heap.size := ⟨_, rfl⟩
  obtain ⟨RB, hRB⟩ : ∃ b, b = w1.heap.size := ⟨_, rfl⟩
  rw [← hTB] at H1 ⊢
  rw [← hRB] at H2 ⊢
  have HZ : Hid (w.heap.size ≤ TB ∧ w.heap.size ≤ RB ∧ TB ≠ RB) := Lib.hid (by omega)
  clear hTB hRB z1 h1 h2 q1 q2
  obtain ⟨f0, f1, f2⟩ := ce3 H1.out
  have g2 := frozen_of_heap (o := 2) H1.out
  have HC := Lib.hid (clone_ok w2 ma mc tms (HM.out.fr R2.out) hl)
  go_wp2_with fail
  refine HC.out.mono ?_
  rintro e w3 ⟨va, vc, rfl, ho, r3⟩
  have H13 := Lib.hid (r3.heap H1.out (by simp))
  have H23 := Lib.hid (r3.heap H2.out (by simp))
  have R3 := Lib.hid (R2.out.trans r3)
  have HTL : Hid (TB < w2.heap.size ∧ RB < w2.heap.size) := Lib.hid ⟨(Array.getElem?_eq_some_iff.1 H1.out).1, (Array.getElem?_eq_some_iff.1 H2.out).1⟩
  have HO := Lib.hid ho
  clear f0 f1 f2 g2 r3 ho HC H1 H2
  obtain ⟨f0, f1, f2⟩ := ce3 H13.out
  have g2 := frozen_of_heap (o := 2) H13.out
  go_upto_region 2 with fail
  have r4 : Fr (only [TB]) w3 (w3.setCell ⟨TB, 2, none⟩ (.slice va tms.length vc)) := (Fr.refl _ _).setCell _ _ (.inl (by simp))
  have H14 : Hid ((w3.setCell ⟨TB, 2, none⟩ (.slice va tms.length vc)).heap[TB]? = some (.cells #[.int .i64 tb, .int .i64 ts, .slice va tms.length vc] 25 (0, 0))) := Lib.hid (heap_setCell H13.out)
  have H24 := Lib.hid (r4.heap H23.out (by have := HZ.out; simp; omega))
  have HO4 := Lib.hid (owns_fr HO.out r4 (fun k hk e => by have := (HO.out.lt k hk).1; have := HTL.out; simp at e; omega))
  have R4 := Lib.hid (R3.out.trans' r4 (fun k hk _ => by have := HZ.out; simp at hk; omega))
  clear f0 f1 f2 g2 r4 H13 H23 HO R3
  generalize w3.setCell ⟨TB, 2, none⟩ (.slice va tms.length vc) = w4 at *
  go_wp2_with (first
    | (refine wpList_load_row rfl 25 (.tmp 1) rfl TB rfl _ _ _ _ H14.out Tryd.underlying25 rfl (by rw [infoTy]; rfl) ?_; simp only [Act.put, List.setIfInBounds_toArray, List.set_cons_zero, List.set_cons_succ])
    | (refine wpList_store_row rfl 25 (.tmp 2) (.tmp 7) rfl RB #[.int .i64 tb, .int .i64 ts, .slice va tms.length vc] rfl rfl _ _ H24.out (by rw [infoTy]; rfl) rfl (by simp [Value.oneCell']) ?_; rw [act_put_none]))
  have rx : Fr (only [RB]) w4 (w4.setRow RB #[.int .i64 tb, .int .i64 ts, .slice va tms.length vc]) := fr_setRow (Fr.refl _ _) (.inl (by simp))
  refine bodyPost_ret (results_cell rfl rfl (run_loadVar_row _ RB _ _ _ _ _ (setRow_heap _ _ _ _ _ _ H24.out) Tryd.underlying25 rfl (by rw [infoTy]; rfl))) rfl ?_
  exact ⟨va, vc, rfl, owns_base (owns_fr HO4.out rx (fun k hk e => by have := (HO4.out.lt k hk).1; have := HTL.out; simp at e; omega)) (fun k hk => by have := (HO4.out.lt k hk).1; have := R2.out.size; omega), R4.out.trans' rx (fun k hk _ => by have := HZ.out; simp at hk; omega)⟩

end Go.Proofs.YtjpkmaacalelcaaDoor

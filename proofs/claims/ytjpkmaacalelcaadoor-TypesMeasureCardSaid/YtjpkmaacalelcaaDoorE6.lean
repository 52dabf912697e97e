/- The kit's CopyStructs: the walk (law24). -/
import Derived.Test.YtjpkmaacalelcaaDoorE5
set_option linter.unusedSimpArgs false
set_option linter.unusedVariables false
set_option linter.unusedSectionVars false
set_option linter.unnecessarySimpa false
set_option maxRecDepth 100000
namespace Go.Proofs.YtjpkmaacalelcaaDoor
open Go.RowKit Go.Ty Go.Deep

attribute [local go_sem] Program.isFuncB Program.isSliceB

variable {w w' w'' w0 : World}

theorem reads_four (w : World) (a0 a1 a2 a3 : Value) (e : TypeId) : Reads (w.alloc (.cells #[a0, a1, a2, a3] e)) (.slice (some ⟨w.heap.size, 0, none⟩) 1 1) 4 1 [a0, a1, a2, a3] :=
  .inr ⟨⟨w.heap.size, 0, none⟩, 1, rfl, Nat.le_refl _, by unfold maxLen; omega, rfl, fun j u hu => by
    have hc : (#[a0, a1, a2, a3] : Array Value)[j]? = some u := by simpa using hu
    have := cell_of_heap (heap_new w (.cells #[a0, a1, a2, a3] e)) hc
    rw [Addr.add_lit, Nat.zero_add]
    exact this⟩

set_option maxRecDepth 100000 in
set_option maxHeartbeats 8000000 in
theorem copysts_ok (w : World) (l : List St) (hsm : SmallS l) (sa : Option Addr) (sc : Nat) (hs : SlIn w sa l) :
    Calls Tryd.prog 10 #[.slice sa l.length sc] w fun e w' => ∃ a c, e = .returned (.slice a l.length c) ∧ SOwn w' w.heap.size (.slice a l.length c) l ∧ Fr no w w' := by
  have hl8 : l.length ≤ 8 := hsm.1
  have HS := Lib.hid hs
  have HSM := Lib.hid hsm
  clear hs hsm
  go_enter Tryd.func10, Tryd.ntmps10
  go_upto_region 3 with fail
  go_loopw [3, 4, 5, 6] (fun x y _ _ wr => ∃ (k : Nat) (oa : Option Addr) (oc : Nat), y = .int .i64 k ∧ k ≤ l.length ∧ x = .slice oa k oc ∧ Hid (SOwn wr w.heap.size (.slice oa k oc) (l.take k)) ∧ Hid (Fr no w wr)) (fun _ y _ _ _ => (l.length - intOf y).toNat)
  case atStart => exact ⟨0, none, 0, rfl, by omega, rfl, Lib.hid ⟨[], rfl, World.ownsRow_nil _ _ _ _, by simp⟩, Lib.hid (Fr.refl _ _)⟩
  case round =>
    obtain ⟨k, oa, oc, rfl, hk, rfl, hown, hfr⟩ := hrel
    by_cases hkl : k < l.length
    case neg =>
      obtain rfl : k = l.length := by omega
      have HO : Hid (SOwn wr w.heap.size (.slice oa l.length oc) l) := Lib.hid (by have := hown.out; rwa [List.take_length] at this)
      clear hown hkl
      go_wp2_with fail
      go_ret
      exact ⟨oa, oc, rfl, HO.out, hfr.out⟩
    have hkl' : (k : Int) < l.length := by omega
    obtain ⟨b, o, fa, fc, rfl, hA, hF⟩ := HS.out k hkl
    have HA := Lib.hid hA
    have HF := Lib.hid hF
    have c0 := hfr.out.cell (hA 0 _ rfl) (by simp)
    rw [Nat.add_zero] at c0
    have hfew := (HSM.out.2 l[k] (List.getElem_mem hkl)).2
    have HTK : Hid (l.take (k + 1) = l.take k ++ [l[k]]) := Lib.hid (List.take_succ_eq_append_getElem hkl)
    obtain ⟨s, hs⟩ : ∃ x, x = l[k] := ⟨_, rfl⟩
    rw [← hs] at HA HF c0 hfew HTK
    clear hs hA hF
    obtain ⟨nm, fs⟩ := s
    dsimp only at HA HF c0 hfew
    have hfl : fs.length ≤ 20 := hfew.1
    have HFW := Lib.hid hfew.2
    clear hfew
    have HZ := Lib.hid (heap_new wr (.cells #[.string { data := #[] }, .slice none 0 0] 53))
    have HX := Lib.hid (setRow_heap _ _ _ #[.string nm, .slice none 0 0] _ _ HZ.out)
    have r1 : Fr no wr ((wr.alloc (.cells #[.string { data := #[] }, .slice none 0 0] 53)).setRow wr.heap.size #[.string nm, .slice none 0 0]) := fr_setRow ((Fr.refl no wr).alloc _) (.inr (Nat.le_refl _))
    have R1 := Lib.hid r1
    clear r1
    go_upto_region 7 with (refine wpList_store_row rfl 53 (.tmp 5) (.tmp 18) rfl wr.heap.size #[.string nm, .slice none 0 0] rfl rfl _ _ HZ.out (by rw [infoSt]; rfl) rfl (by simp [Value.oneCell']) ?_; rw [act_put_none])
    clear HZ c0
    generalize (wr.alloc (.cells #[.string { data := #[] }, .slice none 0 0] 53)).setRow wr.heap.size #[.string nm, .slice none 0 0] = w1 at *
    obtain ⟨wx, hwx⟩ : ∃ x, x = wr := ⟨_, rfl⟩
    subst hwx
    obtain ⟨XB, hXB⟩ : ∃ x, x = wx.heap.size := ⟨_, rfl⟩
    rw [← hXB] at HX ⊢
    have HXB := Lib.hid hXB
    clear hXB
    go_loopw [6] (fun y wr => ∃ (j : Nat) (xa : Option Addr) (xc : Nat), y = .int .i64 j ∧ j ≤ fs.length ∧ Hid (wr.heap[XB]? = some (.cells #[.string nm, .slice xa j xc] 53 (0, 0))) ∧ Hid (FOwn wr XB (.slice xa j xc) (fs.take j)) ∧ Hid (Fr no wx wr)) (fun y _ => (fs.length - intOf y).toNat)
    case atStart => exact ⟨0, none, 0, rfl, by omega, HX, Lib.hid ⟨[], rfl, World.ownsRow_nil _ _ _ _, by simp⟩, R1⟩
    case round =>
      obtain ⟨j, xa, xc, rfl, hj, hx, hfo, hfr2⟩ := hrel
      have HSZ : Hid (w.heap.size ≤ XB) := Lib.hid (by rw [HXB.out]; exact hfr.out.size)
      have RW := Lib.hid (hfr.out.trans hfr2.out)
      have c1 := RW.out.cell (HA.out 1 _ rfl) (by simp)
      by_cases hjl : j < fs.length
      case neg =>
        obtain rfl : j = fs.length := by omega
        have HFO : Hid (FOwn wr XB (.slice xa fs.length xc) fs) := Lib.hid (by have := hfo.out; rwa [List.take_length] at this)
        have HSO := Lib.hid (hown.out.fr hfr2.out)
        obtain ⟨ls, hl1, hl2, hl3⟩ := HSO.out
        have hlk : (l.take k).length = k := List.length_take_of_le hk
        rw [hlk] at hl2
        have RA := Lib.hid ((Fr.refl no wr).alloc (.cells #[.string nm, .slice xa fs.length xc] 53))
        have HRW := Lib.hid (owns_fr hl2 RA.out (by simp))
        have HL3 := Lib.hid (fun p hp => (hl3 p hp).fr RA.out)
        have HL1 := Lib.hid hl1
        have HRD := Lib.hid (reads_ms wr (.string nm) (.slice xa fs.length xc) 53)
        have HSZ2 : Hid (w.heap.size ≤ (wr.alloc (.cells #[.string nm, .slice xa fs.length xc] 53)).heap.size) := Lib.hid (by have := RW.out.size; have := RA.out.size; omega)
        clear hl1 hl2 hl3 hown hfo hjl HSO
        go_wp2_with (first
          | (refine wpList_load_row rfl 53 (.tmp 5) rfl XB rfl _ _ _ _ hx.out Tryd.underlying53 rfl (by rw [infoSt]; rfl) ?_; simp only [Act.put, List.setIfInBounds_toArray, List.set_cons_zero, List.set_cons_succ])
          | (at_builtin; (refine wpList_append_at rfl _ _ 22 rfl w.heap.size 53 (.agg #[.string { data := #[] }, .slice none 0 0]) 2 40 Tryd.underlying22 infoSt3 rfl (by decide) _ _ _ rfl HRW.out 1 _ HRD.out (by simp [Value.oneCell']) (by unfold maxLen; omega) (by omega) HSZ2.out ?_); intro ga gc w6 ho hg hb))
        have HO6 : Hid (SOwn w6 w.heap.size (.slice ga (k + 1) gc) (l.take (k + 1))) := Lib.hid (by
          have r6 : Fr (fun q => (Value.slice oa k oc).ownBlock = some q) (wr.alloc (.cells #[.string nm, .slice xa fs.length xc] 53)) w6 := (Fr.refl _ _).grown hg (fun q hq => .inl hq)
          have hodd : ∀ q, (Value.slice oa k oc).ownBlock = some q → ∃ cs, (wr.alloc (.cells #[.string nm, .slice xa fs.length xc] 53)).heap[q]? = some (.cells cs 53 (0, 0)) := fun q hq => by
            rcases HRW.out.2 with ⟨hv, -⟩ | ⟨g, cap, cs, hv, -, hg', -⟩
            · rw [hv] at hq; cases hq
            · rw [hv] at hq
              have : g = q := by simpa [Value.ownBlock] using hq
              subst this
              exact ⟨cs, hg'⟩
          refine ⟨ls ++ [(⟨nm, fs⟩, .slice xa fs.length xc)], by rw [List.map_append, HL1.out, HTK.out]; rfl, ?_, fun p hp => ?_⟩
          · rw [HTK.out, List.length_append, hlk]
            have e : stC (ls ++ [(⟨nm, fs⟩, .slice xa fs.length xc)]) = stC ls ++ [.string nm, .slice xa fs.length xc] := by unfold stC; rw [List.flatMap_append]; rfl
            rw [e]
            exact ho
          · rcases List.mem_append.1 hp with hp | hp
            · exact (HL3.out p hp).odd r6 hodd
            · rw [List.mem_singleton] at hp
              subst hp
              exact ((HFO.out.base HSZ.out).fr RA.out).odd r6 hodd)
        have RN : Hid (Fr no w w6) := Lib.hid ((RW.out.trans RA.out).trans' ((Fr.refl (fun q => (Value.slice oa k oc).ownBlock = some q) _).grown hg (fun q hq => .inl hq)) (fun q hq _ => (HRW.out.lt q hq).1))
        clear ho hg hb
        go_roundw
        case rel => exact ⟨k + 1, ga, gc, by go_num, by omega, rfl, HO6, RN⟩
        case measure => first | (simp [intOf]; done) | (simp [intOf]; omega)
      have hjl' : (j : Int) < fs.length := by omega
      obtain ⟨b2, o2, ma, mc, rfl, hB, hM⟩ := HF.out j hjl
      have HTJ : Hid (fs.take (j + 1) = fs.take j ++ [fs[j]]) := Lib.hid (List.take_succ_eq_append_getElem hjl)
      have hz := HFW.out fs[j] (List.getElem_mem hjl)
      have HSRC : Hid (∀ w', Fr no w w' → w'.cell? ⟨b, o + k * 2 + 1, none⟩ = some (.slice (some ⟨b2, o2, none⟩) fs.length fc) ∧ w'.cell? ⟨b2, o2 + j * 4, none⟩ = some (.string fs[j].nm) ∧ At w' b2 (o2 + j * 4 + 1) [.int .i64 fs[j].t.b, .int .i64 fs[j].t.s, .slice ma fs[j].t.ms.length mc]) := Lib.hid (fun w' r => by
        refine ⟨r.cell (HA.out 1 _ rfl) (by simp), r.cell (hB 0 _ rfl) (by simp), fun q v hq => ?_⟩
        have := (At.fr hB r) (q + 1) v (by simpa using hq)
        rwa [← Nat.add_assoc, Nat.add_right_comm] at this)
      have HM := Lib.hid hM
      obtain ⟨f, hf⟩ : ∃ x, x = fs[j] := ⟨_, rfl⟩
      rw [← hf] at HTJ hz HSRC HM
      clear hf hB hM
      obtain ⟨fnm, tb, ts, tms⟩ := f
      dsimp only at hz HSRC HM
      obtain ⟨lf, hf1, hf2, hf3⟩ := hfo.out
      have hljl : (fs.take j).length = j := List.length_take_of_le hj
      rw [hljl] at hf2
      have HROW := Lib.hid hf2
      have HF1 := Lib.hid hf1
      have HF3 := Lib.hid hf3
      clear hf1 hf2 hf3 hfo
      go_wp2_with fail
      clear c1
      have rd := (Fr.refl no wr).drew
      have HXd := Lib.hid (rd.heap hx.out (by simp))
      have HRWd := Lib.hid (owns_fr HROW.out rd (by simp))
      have HF3d := Lib.hid (fun p hp => owns_fr (HF3.out p hp) rd (by simp))
      have RWd := Lib.hid (RW.out.trans rd)
      have RXd := Lib.hid (hfr2.out.trans rd)
      clear rd HROW HF3 hx RW hfr2
      refine Lex.region [20, 22, 23, 25] [24, 2] (by kernel_rfl) (by kernel_rfl) ?_
      refine Lex.opens (fun w' => w'.cell? ⟨XB, 1, none⟩ = some (.slice xa j xc) ∧ w'.cell? ⟨b, o + k * 2 + 1, none⟩ = some (.slice (some ⟨b2, o2, none⟩) fs.length fc) ∧ w'.cell? ⟨b2, o2 + j * 4, none⟩ = some (.string fnm) ∧ At w' b2 (o2 + j * 4 + 1) [.int .i64 tb, .int .i64 ts, .slice ma tms.length mc]) (⟨(ce2 HXd.out).2, HSRC.out _ RWd.out⟩) ?_
      generalize wr.drew = w2 at *
      repeat (first
        | (refine Lex.skips (by rfl) ?_; (try simp only [Act.put, List.setIfInBounds_toArray, List.set_cons_zero, List.set_cons_succ]))
        | (refine Lex.into (by rfl) (by rfl) _ _ rfl _ _ rfl _ _ (fun w' h => h.2.2.2) Tryd.underlying25 rfl (by rw [infoTy]; rfl) ?_; (try simp only [Act.put, List.setIfInBounds_toArray, List.set_cons_zero, List.set_cons_succ]))
        | (refine Lex.quiet (v := ?_) (by rfl) (by rfl) ?_ ?_; rotate_left; (focus (intro w' hS'; go_simp; try rfl)); (try simp only [Act.put, List.setIfInBounds_toArray, List.set_cons_zero, List.set_cons_succ])))
      refine Lex.loud (by rfl) (by rfl) ?_
      intro K' hK'
      go_simp
      refine (copyt_ok w2 ⟨tb, ts, tms⟩ ma mc (HM.out.fr RWd.out) (by dsimp only; omega)).mono ?_
      rintro e w3 ⟨ta, tc, rfl, ho3, r3⟩
      have HX3 := Lib.hid (r3.heap HXd.out (by simp))
      have HRW3 := Lib.hid (owns_fr HRWd.out r3 (by simp))
      have HF33 := Lib.hid (fun p hp => owns_fr (HF3d.out p hp) r3 (by simp))
      have RW3 := Lib.hid (RWd.out.trans r3)
      have RX3 := Lib.hid (RXd.out.trans r3)
      dsimp only at ho3 ⊢
      have HT3 : Hid (w3.ownsRow XB 3 1 (.slice ta tms.length tc) tms.length (ints tms)) := Lib.hid (owns_base ho3 (fun q hq => by have := (ho3.lt q hq).1; have := (Array.getElem?_eq_some_iff.1 HXd.out).1; omega))
      clear r3 HXd HRWd HF3d RWd RXd ho3
      refine hK' _ _ (⟨(ce2 HX3.out).2, HSRC.out _ RW3.out⟩) ?_
      clear hK'
      try simp only [Act.put, List.setIfInBounds_toArray, List.set_cons_zero, List.set_cons_succ]
      repeat (first
        | (refine Lex.skips (by rfl) ?_; (try simp only [Act.put, List.setIfInBounds_toArray, List.set_cons_zero, List.set_cons_succ]))
        | (refine Lex.quiet (v := ?_) (by rfl) (by rfl) ?_ ?_; rotate_left; (focus (intro w' hS'; go_simp; try rfl)); (try simp only [Act.put, List.setIfInBounds_toArray, List.set_cons_zero, List.set_cons_succ])))
      refine Lex.loud (by rfl) (by rfl) ?_
      intro K' hK'
      go_simp
      have r4 := (Fr.refl no w3).alloc (.cells #[.string fnm, .int .i64 tb, .int .i64 ts, .slice ta tms.length tc] 55)
      have HX4 := Lib.hid (r4.heap HX3.out (by simp))
      have HRW4 := Lib.hid (owns_fr HRW3.out r4 (by simp))
      have HF34 := Lib.hid (fun p hp => owns_fr (HF33.out p hp) r4 (by simp))
      have RW4 := Lib.hid (RW3.out.trans r4)
      have RX4 := Lib.hid (RX3.out.trans r4)
      have HT4 := Lib.hid (owns_fr HT3.out r4 (by simp))
      have HRD := Lib.hid (reads_four w3 (.string fnm) (.int .i64 tb) (.int .i64 ts) (.slice ta tms.length tc) 55)
      clear r4 HX3 HRW3 HF33 RW3 RX3 HT3
      generalize w3.alloc (.cells #[.string fnm, .int .i64 tb, .int .i64 ts, .slice ta tms.length tc] 55) = w4 at *
      generalize w3.heap.size = NB at *
      refine hK' _ _ (⟨(ce2 HX4.out).2, HSRC.out _ RW4.out⟩) ?_
      clear hK'
      try simp only [Act.put, List.setIfInBounds_toArray, List.set_cons_zero, List.set_cons_succ]
      repeat (first
        | (refine Lex.skips (by rfl) ?_; (try simp only [Act.put, List.setIfInBounds_toArray, List.set_cons_zero, List.set_cons_succ]))
        | (refine Lex.quiet (v := ?_) (by rfl) (by rfl) ?_ ?_; rotate_left; (focus (intro w' hS'; go_simp; try rfl)); (try simp only [Act.put, List.setIfInBounds_toArray, List.set_cons_zero, List.set_cons_succ])))
      refine Lex.loud (by rfl) (by rfl) ?_
      intro K' hK'
      refine wp_append_at (.tmp 30) (.tmp 51) 51 rfl XB 55 (.agg zeroFd) 4 56 Tryd.underlying51 infoFd3 rfl (by decide) _ j _ rfl HRW4.out 1 _ HRD.out (by simp [Value.oneCell']) (by unfold maxLen; omega) (by omega) (by have := (Array.getElem?_eq_some_iff.1 HX4.out).1; omega) ?_
      intro ga gc w5 ho hg hb
      have r5 : Fr (fun q => (Value.slice xa j xc).ownBlock = some q) w4 w5 := (Fr.refl _ w4).grown hg (fun q hq => .inl hq)
      have HX5 := Lib.hid (r5.heap HX4.out (row_block_ne HRW4.out HX4.out (by decide)))
      have HF35 : Hid (∀ p ∈ lf, w5.ownsRow XB 3 1 p.2 p.1.t.ms.length (ints p.1.t.ms)) := Lib.hid (fun p hp => owns_fr (HF34.out p hp) r5 (fun q hq hq2 => rows_ne (HF34.out p hp) HRW4.out (by decide) q hq hq2))
      have HT5 := Lib.hid (owns_fr HT4.out r5 (fun q hq hq2 => rows_ne HT4.out HRW4.out (by decide) q hq hq2))
      have RW5 := Lib.hid (RW4.out.trans' r5 (fun q hq _ => by have := (HRW4.out.lt q hq).1; have := HSZ.out; omega))
      have RX5 := Lib.hid (RX4.out.trans' r5 (fun q hq _ => by have := (HRW4.out.lt q hq).1; have := HXB.out; omega))
      have HO5 : Hid (w5.ownsRow XB 55 4 (.slice ga (j + 1) gc) (j + 1) (fdC (lf ++ [(⟨fnm, ⟨tb, ts, tms⟩⟩, .slice ta tms.length tc)]))) := Lib.hid (by
        have e : fdC (lf ++ [(⟨fnm, ⟨tb, ts, tms⟩⟩, .slice ta tms.length tc)]) = fdC lf ++ [.string fnm, .int .i64 tb, .int .i64 ts, .slice ta tms.length tc] := by unfold fdC; rw [List.flatMap_append]; rfl
        rw [e]
        exact ho)
      clear r5 ho hg hb HX4 HRW4 HF34 HT4 RW4 RX4 HRD
      refine hK' _ _ (⟨(ce2 HX5.out).2, HSRC.out _ RW5.out⟩) ?_
      clear hK'
      try simp only [Act.put, List.setIfInBounds_toArray, List.set_cons_zero, List.set_cons_succ]
      repeat (first
        | (refine Lex.skips (by rfl) ?_; (try simp only [Act.put, List.setIfInBounds_toArray, List.set_cons_zero, List.set_cons_succ]))
        | (refine Lex.quiet (v := ?_) (by rfl) (by rfl) ?_ ?_; rotate_left; (focus (intro w' hS'; go_simp; try rfl)); (try simp only [Act.put, List.setIfInBounds_toArray, List.set_cons_zero, List.set_cons_succ])))
      refine Lex.done ?_
      refine Lex.opens ((fun _ => True)) (trivial) ?_
      repeat (first
        | (refine Lex.skips (by rfl) ?_; (try simp only [Act.put, List.setIfInBounds_toArray, List.set_cons_zero, List.set_cons_succ]))
        | (refine Lex.quiet (v := ?_) (by rfl) (by rfl) ?_ ?_; rotate_left; (focus (intro w' hS'; go_simp; try rfl)); (try simp only [Act.put, List.setIfInBounds_toArray, List.set_cons_zero, List.set_cons_succ])))
      have cc := (ce2 HX5.out).2
      have fcz := frozen_of_heap (o := 1) HX5.out
      refine Lex.loud (by rfl) (by rfl) ?_
      intro K' hK'
      go_simp
      refine hK' _ _ (trivial) ?_
      clear hK'
      try simp only [Act.put, List.setIfInBounds_toArray, List.set_cons_zero, List.set_cons_succ]
      refine Lex.done ?_
      refine Lex.ends ?_
      have r6 : Fr (only [XB]) w5 (w5.setCell ⟨XB, 1, none⟩ (.slice ga (j + 1) gc)) := (Fr.refl _ _).setCell _ _ (.inl (by simp))
      have HX6 : Hid ((w5.setCell ⟨XB, 1, none⟩ (.slice ga (j + 1) gc)).heap[XB]? = some (.cells #[.string nm, .slice ga (j + 1) gc] 53 (0, 0))) := Lib.hid (heap_setCell HX5.out)
      have HFO6 : Hid (FOwn (w5.setCell ⟨XB, 1, none⟩ (.slice ga (j + 1) gc)) XB (.slice ga (j + 1) gc) (fs.take (j + 1))) := Lib.hid (by
        have h5 : FOwn w5 XB (.slice ga (j + 1) gc) (fs.take (j + 1)) := by
          refine ⟨lf ++ [(⟨fnm, ⟨tb, ts, tms⟩⟩, .slice ta tms.length tc)], by rw [List.map_append, HF1.out, HTJ.out]; rfl, ?_, fun p hp => ?_⟩
          · rw [HTJ.out, List.length_append, hljl]
            exact HO5.out
          · rcases List.mem_append.1 hp with hp | hp
            · exact HF35.out p hp
            · rw [List.mem_singleton] at hp
              subst hp
              exact HT5.out
        refine h5.odd r6 (fun q hq => ?_)
        simp at hq
        subst hq
        exact ⟨_, HX5.out⟩)
      have RX6 : Hid (Fr no wx (w5.setCell ⟨XB, 1, none⟩ (.slice ga (j + 1) gc))) := Lib.hid (RX5.out.trans' r6 (fun q hq _ => by have := HXB.out; simp at hq; omega))
      clear r6 cc fcz HX5 HF35 HT5 RW5 RX5 HO5
      go_wp2_with fail
      go_roundw
      case rel => exact ⟨j + 1, ga, gc, by go_num, by omega, HX6, HFO6, RX6⟩
      case measure => first | (simp [intOf]; done) | (simp [intOf]; omega)

end Go.Proofs.YtjpkmaacalelcaaDoor

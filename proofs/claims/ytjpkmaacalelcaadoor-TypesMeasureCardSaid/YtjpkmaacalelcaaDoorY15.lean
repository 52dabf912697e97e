/- Where a field lies, and its type (law24). -/
import Derived.Test.YtjpkmaacalelcaaDoorY14
set_option linter.unusedSimpArgs false
set_option linter.unusedVariables false
set_option linter.unusedSectionVars false
set_option linter.unnecessarySimpa false
set_option maxRecDepth 100000
namespace Go.Ty
/-- what Offset tells -/
def offS (l : List St) (s : Int) (fld : ByteArray) : Nat × Ty × Nat :=
  if structsE l = 0 then
    (if s < 0 ∨ (l.length : Int) ≤ s then (0, ⟨0, 0, []⟩, 2) else
      match (fieldsAt l s.toNat).findIdx? (fun f => decide (f.nm = fld)) with
      | none => (0, ⟨0, 0, []⟩, 6)
      | some i => ((layM (whole l) (fieldsAt l s.toNat)).1.getD i 0, (match (fieldsAt l s.toNat)[i]? with | some f => f.t | none => ⟨0, 0, []⟩), 0))
  else (0, ⟨0, 0, []⟩, structsE l)
end Go.Ty
namespace Go.Proofs.YtjpkmaacalelcaaDoor
open Go.RowKit Go.Ty Go.Deep

attribute [local go_sem] Program.isFuncB Program.isSliceB

variable {w w' w'' w0 : World}

theorem results_scs {P : Program} {fn : Func} {tmps : Array Value} {w : World} {d1 d2 d3 : Tmp} {t2 : TypeId} {a2 : Addr} {v1 v2 v3 : Value} (hr : fn.results = #[.tmp d1, .cell d2 t2, .tmp d3])
    (h1 : tmps.getD d1 undef = v1) (h2 : tmps.getD d2 undef = .pointer (some a2)) (h3 : tmps.getD d3 undef = v3) (l2 : (loadVar t2 a2).run P w = .ok v2 w) : (results fn tmps).run P w = .ok (.tuple #[v1, v2, v3]) w := by
  have h1' : tmps[d1]?.getD undef = v1 := by rw [← h1]; simp [Array.getD_eq_getD_getElem?]
  have h2' : tmps[d2]?.getD undef = .pointer (some a2) := by rw [← h2]; simp [Array.getD_eq_getD_getElem?]
  have h3' : tmps[d3]?.getD undef = v3 := by rw [← h3]; simp [Array.getD_eq_getD_getElem?]
  simp only [results, hr]
  simp [h1', h2', h3', asAddr, l2]
theorem load_ty (w : World) (b : Nat) (u v x : Value) (h : w.heap[b]? = some (.cells #[u, v, x] 25 (0, 0))) : (loadVar 25 ⟨b, 0, none⟩).run Tryd.prog w = .ok (.agg #[u, v, x]) w :=
  run_loadVar_row w b _ _ #[u, v, x] _ _ h Tryd.underlying25 rfl (by rw [infoTy]; rfl)

/-- an answer of Offset -/
def OffPost (l : List St) (s : Int) (fld : ByteArray) (w : World) (e : Ending) (w' : World) : Prop :=
  ∃ n b ts ms a c er, e = .returned (.tuple #[.int .i64 (n : Nat), .agg #[.int .i64 b, .int .i64 ts, .slice a (List.length ms) c], .int .i64 (er : Nat)]) ∧ TIn w' a c ms ∧ offS l s fld = (n, ⟨b, ts, ms⟩, er) ∧ Fr no w w'
theorem OffPost.none {l : List St} {s : Int} {fld : ByteArray} {er : Nat} (h : offS l s fld = (0, ⟨0, 0, []⟩, er)) (r : Fr no w w') :
    OffPost l s fld w (.returned (.tuple #[.int .i64 0, .agg #[.int .i64 0, .int .i64 0, .slice none 0 0], .int .i64 er])) w' :=
  ⟨0, 0, 0, [], Option.none, 0, er, rfl, .inl ⟨rfl, rfl, rfl⟩, h, r⟩

set_option maxRecDepth 100000 in
set_option maxHeartbeats 8000000 in
theorem offset_ok (l : List St) (hn : NmOk l) (s : Int) (fld : ByteArray) (w : World) (sa : Option Addr) (sc : Nat) (hs : SlIn w sa l) :
    Calls Tryd.prog 29 #[.slice sa l.length sc, .int .i64 s, .string fld] w (OffPost l s fld w) := by
  have q1 := (Fr.refl no w).alloc (.cells #[.string fld] 9)
  have h1 := heap_new w (.cells #[.string fld] 9)
  have z1 := World.size_alloc w (.cells #[.string fld] 9)
  have HS0 := Lib.hid hs
  have HN := Lib.hid hn
  clear hs hn
  go_enter Tryd.func29, Tryd.ntmps29
  go_upto_region 1 with fail
  generalize w.alloc (.cells #[.string fld] 9) = w1 at *
  rw [← z1]
  have q2 := (Fr.refl no w1).alloc (.cells #[.int .i64 0, .int .i64 0, .slice none 0 0] 25)
  have h2 := heap_new w1 (.cells #[.int .i64 0, .int .i64 0, .slice none 0 0] 25)
  have H1 := Lib.hid (q2.heap h1 (by simp))
  have H2 := Lib.hid h2
  have R2 := Lib.hid (q1.trans q2)
  generalize w1.alloc (.cells #[.int .i64 0, .int .i64 0, .slice none 0 0] 25) = w2 at *
  obtain ⟨FB, hFB⟩ : ∃ b, b = w.heap.size := ⟨_, rfl⟩
  obtain ⟨RB, hRB⟩ : ∃ b, b = w1.heap.size := ⟨_, rfl⟩
  rw [← hFB] at H1 ⊢
  rw [← hRB] at H2 ⊢
  have HZ : Hid (w.heap.size ≤ FB ∧ w.heap.size ≤ RB ∧ FB ≠ RB) := Lib.hid (by omega)
  have hzt : (Instr.build 25 #[]).run Tryd.prog w2 = .ok (.agg #[.int .i64 0, .int .i64 0, .slice none 0 0]) w2 := by kernel_rfl
  clear hFB hRB z1 h1 h2 q1 q2 hzt
  have HC := Lib.hid (structs_ok l HN.out w2 sa sc (HS0.out.fr R2.out))
  go_wp2_with fail
  refine HC.out.mono ?_
  rintro e w3 ⟨rfl, r3⟩
  have H13 := Lib.hid (r3.heap H1.out (by simp))
  have H23 := Lib.hid (r3.heap H2.out (by simp))
  have R3 := Lib.hid (R2.out.trans r3)
  clear r3 HC H1 H2 R2
  have HRX : Hid (∀ (W : World) (u v x : Value), W.heap[RB]? = some (.cells #[u, v, x] 25 (0, 0)) → Fr no w W → Fr no w (W.setRow RB #[.int .i64 0, .int .i64 0, .slice none 0 0])) := Lib.hid (fun W u v x _ h => h.trans' (fr_setRow (g := RB) (cs := #[.int .i64 0, .int .i64 0, .slice none 0 0]) (Fr.refl (only [RB]) W) (.inl (by simp))) (fun k hk _ => by have := HZ.out; simp at hk; omega))
  by_cases h0 : structsE l = 0
  · rw [h0]
    have hz0 : ¬ ((0 : Int) ≠ 0) := by decide
    by_cases hs0 : s < 0
    · have HR : Hid (offS l s fld = (0, ⟨0, 0, []⟩, 2)) := Lib.hid (by unfold offS; rw [if_pos h0, if_pos (.inl hs0)])
      clear h0
      go_wp2_with (refine wpList_store_row rfl 25 (.tmp 7) (.tmp 27) rfl RB #[.int .i64 0, .int .i64 0, .slice none 0 0] rfl rfl _ _ H23.out (by rw [infoTy]; rfl) rfl (by simp [Value.oneCell']) ?_; rw [act_put_none])
      refine bodyPost_ret (results_scs rfl rfl rfl rfl (load_ty _ _ _ _ _ (setRow_heap _ _ _ _ _ _ H23.out))) rfl ?_
      exact OffPost.none HR.out (HRX.out _ _ _ _ H23.out R3.out)
    · by_cases hsl : (l.length : Int) ≤ s
      · have HR : Hid (offS l s fld = (0, ⟨0, 0, []⟩, 2)) := Lib.hid (by unfold offS; rw [if_pos h0, if_pos (.inr hsl)])
        clear h0
        go_wp2_with (refine wpList_store_row rfl 25 (.tmp 7) (.tmp 27) rfl RB #[.int .i64 0, .int .i64 0, .slice none 0 0] rfl rfl _ _ H23.out (by rw [infoTy]; rfl) rfl (by simp [Value.oneCell']) ?_; rw [act_put_none])
        refine bodyPost_ret (results_scs rfl rfl rfl rfl (load_ty _ _ _ _ _ (setRow_heap _ _ _ _ _ _ H23.out))) rfl ?_
        exact OffPost.none HR.out (HRX.out _ _ _ _ H23.out R3.out)
      · obtain ⟨n, rfl⟩ := Int.eq_ofNat_of_zero_le (show 0 ≤ s by omega)
        have hnl : n < l.length := by omega
        have hnl' : ((n : Nat) : Int) < l.length := by omega
        have HOFF : Hid (offS l n fld = match (fieldsAt l n).findIdx? (fun f => decide (f.nm = fld)) with
            | none => (0, ⟨0, 0, []⟩, 6)
            | some i => ((layM (whole l) (fieldsAt l n)).1.getD i 0, (match (fieldsAt l n)[i]? with | some f => f.t | none => ⟨0, 0, []⟩), 0)) := Lib.hid (by
          unfold offS; rw [if_pos h0, if_neg (by omega)]; rfl)
        have HSD := Lib.hid (sound_of (structsE_ok.1 h0).1)
        have HLAY := Lib.hid (lay_all l HSD.out n hnl w3 sa sc (HS0.out.fr R3.out))
        have hll := layS_len (whole l) (fieldsAt l n) 0
        obtain ⟨b, o, fa, fc, rfl, hA, hF⟩ := HS0.out n hnl
        have hfs : l[n].fs = fieldsAt l n := by unfold fieldsAt; rw [List.getElem?_eq_getElem hnl]
        rw [hfs] at hA hF
        have HA := Lib.hid hA
        have HF := Lib.hid hF
        have hle := HSD.out.le n
        have HSH := Lib.hid (HSD.out.sh n)
        have HLL : Hid ((layM (whole l) (fieldsAt l n)).1.length = (fieldsAt l n).length) := Lib.hid hll
        generalize (layM (whole l) (fieldsAt l n)).1 = places at *
        generalize fieldsAt l n = fs at *
        generalize whole l n = ws at *
        obtain ⟨m1, m2⟩ := ws
        generalize l[n].nm = snm at *
        unfold meas at *
        dsimp only at *
        clear h0 hs0 hsl hA hF hfs HSD hll HN HS0
        go_wp2_with fail
        refine HLAY.out.mono ?_
        rintro e w4 ⟨pv, rfl, ho, r4⟩
        obtain ⟨pa, pc, rfl⟩ := owns_shape ho
        have H14 := Lib.hid (r4.heap H13.out (by simp))
        have H24 := Lib.hid (r4.heap H23.out (by simp))
        have R4 := Lib.hid (R3.out.trans r4)
        have HO := Lib.hid ho
        have HW4 : Hid (w3.heap.size ≤ w4.heap.size ∧ FB < w3.heap.size ∧ RB < w3.heap.size) := Lib.hid ⟨r4.size, (Array.getElem?_eq_some_iff.1 H13.out).1, (Array.getElem?_eq_some_iff.1 H23.out).1⟩
        have HB0 := Lib.hid (heap_new w4 (.cells #[.int .i64 0, .int .i64 0] 60))
        have r5 : Fr no w4 ((w4.alloc (.cells #[.int .i64 0, .int .i64 0] 60)).setRow w4.heap.size #[.int .i64 m1, .int .i64 m2]) := fr_setRow ((Fr.refl no w4).alloc _) (.inr (Nat.le_refl _))
        have H15 := Lib.hid (r5.heap H14.out (by simp))
        have H25 := Lib.hid (r5.heap H24.out (by simp))
        have HO5 := Lib.hid (owns_fr HO.out r5 (by simp))
        have R5 := Lib.hid (R4.out.trans r5)
        clear ho r4 r5 HLAY H13 H23 R3 H14 H24 R4 HO
        go_upto_region 7 with (refine wpList_store_row rfl 60 (.tmp 11) (.tmp 33) rfl w4.heap.size #[.int .i64 m1, .int .i64 m2] rfl rfl _ _ HB0.out (by rw [infoMeas]; rfl) rfl (by simp [Value.oneCell']) ?_; rw [act_put_none])
        generalize (w4.alloc (.cells #[.int .i64 0, .int .i64 0] 60)).setRow w4.heap.size #[.int .i64 m1, .int .i64 m2] = w5 at *
        generalize w4.heap.size = MB at *
        clear HB0
        have HIX := Lib.hid (indexField w5 fa fc fs (HF.out.fr R5.out) (by omega) fld FB H15.out)
        have f1 : w5.cell? ⟨b, o + n * 2 + 1, none⟩ = some (.slice fa fs.length fc) := (HA.out.fr R5.out) 1 _ rfl
        go_wp2_with fail
        refine HIX.out.mono ?_
        rintro e w6 ⟨rfl, r6⟩
        have H16 := Lib.hid (r6.heap H15.out (by simp))
        have H26 := Lib.hid (r6.heap H25.out (by simp))
        have HO6 := Lib.hid (owns_fr HO5.out r6 (by simp))
        have R6 := Lib.hid (R5.out.trans r6)
        clear r6 HIX H15 H25 HO5 R5 f1
        cases hq : fs.findIdx? (fun f => decide (f.nm = fld)) with
        | none =>
          have HI : fdI fs fld = -1 := by unfold fdI; rw [hq]
          have HR : Hid (offS l n fld = (0, ⟨0, 0, []⟩, 6)) := Lib.hid (by rw [HOFF.out, hq])
          rw [HI]
          clear hq HI HOFF
          go_wp2_with (refine wpList_store_row rfl 25 (.tmp 7) (.tmp 43) rfl RB #[.int .i64 0, .int .i64 0, .slice none 0 0] rfl rfl _ _ H26.out (by rw [infoTy]; rfl) rfl (by simp [Value.oneCell']) ?_; rw [act_put_none])
          refine bodyPost_ret (results_scs rfl rfl rfl rfl (load_ty _ _ _ _ _ (setRow_heap _ _ _ _ _ _ H26.out))) rfl ?_
          exact OffPost.none HR.out (HRX.out _ _ _ _ H26.out R6.out)
        | some i =>
          have HI : fdI fs fld = i := by unfold fdI; rw [hq]
          have hil : i < fs.length := by
            rw [List.findIdx?_eq_some_iff_getElem] at hq
            exact hq.1
          have hil' : (i : Int) < fs.length := by omega
          have HR : Hid (offS l n fld = (places.getD i 0, fs[i].t, 0)) := Lib.hid (by rw [HOFF.out, hq]; simp only [List.getElem?_eq_getElem hil])
          rw [HI]
          have hpl : (natsI places)[i]? = some (.int .i64 ((places.getD i 0 : Nat) : Int)) := by
            have : i < places.length := by rw [HLL.out]; exact hil
            unfold natsI
            rw [List.getElem?_map, List.getElem?_eq_getElem this, List.getD_eq_getElem?_getD, List.getElem?_eq_getElem this]
            rfl
          have HRD := owns_reads HO6.out
          obtain ⟨pb, po, e1, hc1⟩ := HRD.at1 hpl
          subst e1
          obtain ⟨fb, fo, ma, mc, e2, hA2, hT2⟩ := (HF.out.fr R6.out) i hil
          subst e2
          have hsh := HSH.out fs[i] (List.getElem_mem hil)
          have hl8 : fs[i].t.ms.length ≤ 8 := (shaped_iff.1 hsh).2.1
          have HPB : Hid (RB ≠ pb) := Lib.hid (by
            have h5 := (HO6.out.lt pb rfl).1
            have h6 := HW4.out
            omega)
          have HBL : Hid (b ≠ RB ∧ fb ≠ RB) := Lib.hid (by
            have h5 := cell_lt (HA.out 1 _ rfl)
            obtain ⟨fb2, fo2, _, _, e7, hA7, _⟩ := HF.out i hil
            cases e7
            have h6 := cell_lt (hA7 0 _ rfl)
            have h8 := HZ.out
            omega)
          have HOWN := Lib.hid (fun W (hh : TIn W ma mc fs[i].t.ms) => own_ok W fs[i].t ma mc hh (by omega))
          have HT := Lib.hid hT2
          have HC1 := Lib.hid hc1
          have HA6 : Hid (At w6 fb (fo + i * 4 + 1) [.int .i64 fs[i].t.b, .int .i64 fs[i].t.s, .slice ma fs[i].t.ms.length mc]) := Lib.hid (At_tail hA2)
          have f1 : Hid (w6.cell? ⟨b, o + n * 2 + 1, none⟩ = some (.slice (some ⟨fb, fo, none⟩) fs.length fc)) := Lib.hid ((HA.out.fr R6.out) 1 _ rfl)
          generalize places.getD i 0 = pl at *
          generalize fs[i] = f at *
          obtain ⟨nm, tb, ts, tms⟩ := f
          dsimp only at *
          clear HI hq HOFF hpl HRD hc1 hA2 hT2 hsh HSH HF
          go_upto_region 10 with fail
          have HLP : Hid (places.length = fs.length) := HLL
          have rd := (Fr.refl no w6).drew
          have HZD : Hid (w6.drew.heap.size = w6.heap.size) := Lib.hid rfl
          refine Lex.region [13, 15] [17] (by kernel_rfl) (by kernel_rfl) ?_
          refine Lex.opens (fun w' => w'.cell? ⟨pb, po + i, none⟩ = some (.int .i64 pl) ∧ w'.cell? ⟨b, o + n * 2 + 1, none⟩ = some (.slice (some ⟨fb, fo, none⟩) fs.length fc) ∧ At w' fb (fo + i * 4 + 1) [.int .i64 tb, .int .i64 ts, .slice ma tms.length mc]) (⟨rd.cell HC1.out (by simp), rd.cell f1.out (by simp), HA6.out.fr rd⟩) ?_
          repeat (first
            | (refine Lex.skips (by rfl) ?_; (try simp only [Act.put, List.setIfInBounds_toArray, List.set_cons_zero, List.set_cons_succ]))
            | (refine Lex.into (by rfl) (by rfl) _ _ rfl _ _ rfl _ _ (fun w' h => h.2.2) Tryd.underlying25 rfl (by rw [infoTy]; rfl) ?_; (try simp only [Act.put, List.setIfInBounds_toArray, List.set_cons_zero, List.set_cons_succ]))
            | (refine Lex.quiet (v := ?_) (by rfl) (by rfl) ?_ ?_; rotate_left; (focus (intro w' hS'; go_simp; try rfl)); (try simp only [Act.put, List.setIfInBounds_toArray, List.set_cons_zero, List.set_cons_succ])))
          refine Lex.loud (by rfl) (by rfl) ?_
          intro K' hK'
          go_simp
          refine (HOWN.out _ (HT.out.fr rd)).mono ?_
          rintro e w7 ⟨va, vc, rfl, ho, r7⟩
          have r67 := rd.trans r7
          have HX7 := Lib.hid (owns_reads ho)
          have HOB := Lib.hid ho
          have H27 := Lib.hid (r67.heap H26.out (by simp))
          have R7 := Lib.hid (R6.out.trans r67)
          have HZ7 : Hid (RB < w6.heap.size) := Lib.hid (Array.getElem?_eq_some_iff.1 H26.out).1
          have HC7 := Lib.hid (r67.cell HC1.out (by simp))
          have HF7 := Lib.hid (r67.cell f1.out (by simp))
          have HA7 := Lib.hid (HA6.out.fr r67)
          clear ho r7 r67 rd
          refine hK' _ _ (⟨HC7.out, HF7.out, HA7.out⟩) ?_
          clear hK'
          try simp only [Act.put, List.setIfInBounds_toArray, List.set_cons_zero, List.set_cons_succ]
          repeat (first
            | (refine Lex.skips (by rfl) ?_; (try simp only [Act.put, List.setIfInBounds_toArray, List.set_cons_zero, List.set_cons_succ]))
            | (refine Lex.quiet (v := ?_) (by rfl) (by rfl) ?_ ?_; rotate_left; (focus (intro w' hS'; go_simp; try rfl)); (try simp only [Act.put, List.setIfInBounds_toArray, List.set_cons_zero, List.set_cons_succ])))
          refine Lex.loud (by rfl) (by rfl) ?_
          intro K' hK'
          refine wp_store_row 25 (.tmp 7) (.tmp 57) rfl RB #[.int .i64 tb, .int .i64 ts, .slice va tms.length vc] rfl rfl _ _ H27.out (by rw [infoTy]; rfl) rfl (by simp [Value.oneCell']) ?_
          have rx : Fr (only [RB]) w7 (w7.setRow RB #[.int .i64 tb, .int .i64 ts, .slice va tms.length vc]) := fr_setRow (Fr.refl _ _) (.inl (by simp))
          refine hK' _ _ ⟨rx.cell HC7.out (by have := HPB.out; simp; omega), rx.cell HF7.out (by have := HBL.out; simp; omega), fun j u hj => rx.cell (HA7.out j u hj) (by have := HBL.out; simp; omega)⟩ ?_
          clear hK'
          try simp only [Act.put, List.setIfInBounds_toArray, List.set_cons_zero, List.set_cons_succ]
          repeat (first
            | (refine Lex.skips (by rfl) ?_; (try simp only [Act.put, List.setIfInBounds_toArray, List.set_cons_zero, List.set_cons_succ]))
            | (refine Lex.quiet (v := ?_) (by rfl) (by rfl) ?_ ?_; rotate_left; (focus (intro w' hS'; go_simp; try rfl)); (try simp only [Act.put, List.setIfInBounds_toArray, List.set_cons_zero, List.set_cons_succ])))
          refine Lex.done ?_
          refine Lex.ends ?_
          have HX8 := Lib.hid (HX7.out.fr rx (fun k hk e => by
            have := (HOB.out.lt k hk).1
            have := HZ7.out
            have := HZD.out
            simp at e
            omega))
          have R8 := Lib.hid (R7.out.trans' rx (fun k hk _ => by have := HZ.out; simp at hk; omega))
          have H28 := Lib.hid (setRow_heap w7 RB _ #[.int .i64 tb, .int .i64 ts, .slice va tms.length vc] _ _ H27.out)
          clear rx
          generalize w7.setRow RB #[.int .i64 tb, .int .i64 ts, .slice va tms.length vc] = w8 at *
          go_wp2_with fail
          refine bodyPost_ret (results_scs rfl rfl rfl rfl (load_ty _ _ _ _ _ H28.out)) rfl ?_
          exact ⟨pl, tb, ts, tms, va, vc, 0, rfl, HX8.out, HR.out, R8.out⟩
  · have HR : Hid (offS l s fld = (0, ⟨0, 0, []⟩, structsE l)) := Lib.hid (by unfold offS; rw [if_neg h0])
    generalize structsE l = se at *
    have hz : ((se : Int) == 0) = false := by rw [beq_eq_false_iff_ne]; omega
    have hz2 : ((se : Int) != 0) = true := by simp [bne, hz]
    clear h0
    go_wp2_with (refine wpList_store_row rfl 25 (.tmp 7) (.tmp 17) rfl RB #[.int .i64 0, .int .i64 0, .slice none 0 0] rfl rfl _ _ H23.out (by rw [infoTy]; rfl) rfl (by simp [Value.oneCell']) ?_; rw [act_put_none])
    refine bodyPost_ret (results_scs rfl rfl rfl rfl (load_ty _ _ _ _ _ (setRow_heap _ _ _ _ _ _ H23.out))) rfl ?_
    exact OffPost.none HR.out (HRX.out _ _ _ _ H23.out R3.out)

end Go.Proofs.YtjpkmaacalelcaaDoor

/- module.Get's reader: function's walk. -/
import Derived.Test.YtdngflhfhmnipaaGreatM13
import Derived.Test.YtdngflhfhmnipaaGreatM6
set_option linter.unusedSimpArgs false
set_option linter.unusedVariables false
set_option linter.unusedSectionVars false
set_option linter.unnecessarySimpa false
namespace Go.Proofs.YtdngflhfhmnipaaGreat
open Go.RowKit

attribute [local go_sem] Program.isFuncB Program.isSliceB

variable {w w' w'' w0 : World}

theorem Tryz.infoFunc3 : (Tryz.prog.info? 44).map (fun i => (i.zero, i.size, i.bytes)) = some (some (.agg zeroFn), 4, 48) := by kernel_rfl
theorem fault_setM (w : World) (er fa : Int) : Hid (((w.alloc (.cells #[.int .i64 0, .int .i64 0] 38)).setRow w.heap.size #[.int .i64 er, .int .i64 fa]).heap[w.heap.size]? = some (.cells #[.int .i64 er, .int .i64 fa] 38 (0, 0)) ∧
    Fr no w ((w.alloc (.cells #[.int .i64 0, .int .i64 0] 38)).setRow w.heap.size #[.int .i64 er, .int .i64 fa])) := by
  have ra := (Fr.refl no w).alloc (.cells #[.int .i64 0, .int .i64 0] 38)
  exact Lib.hid ⟨setRow_heap _ w.heap.size _ #[.int .i64 er, .int .i64 fa] _ _ (heap_new w _), ra.trans' (fr_setRow (g := w.heap.size) (cs := #[.int .i64 er, .int .i64 fa]) (Fr.refl (only [w.heap.size]) _) (.inl (by simp))) (fun k hk _ => by simp at hk; omega)⟩

def FnPost (w : World) (base rb pb : Nat) (bv dv fv : Value) (bs : List Nat) (s : Pl) (l : List FxV) (e : Ending) (w' : World) : Prop :=
  e = .returned (.tuple #[]) ∧ PlAt w' pb bv bs (functionP bs s).2 ∧ ∃ fv' l', w'.heap[rb]? = some (.cells #[.pointer (some ⟨pb, 0, none⟩), dv, fv'] 68 (0, 0)) ∧ FnsOwn w' base fv' l' ∧
    l'.map Prod.fst = l.map Prod.fst ++ (functionP bs s).1 ∧ Fr (fun k => k = pb ∨ k = rb ∨ fv.ownBlock = some k) w w'

set_option maxRecDepth 100000 in
set_option maxHeartbeats 16000000 in
theorem function_ok (w : World) (base rb pb : Nat) (bv dv fv : Value) (bs : List Nat) (s : Pl) (l : List FxV) (hr : w.heap[rb]? = some (.cells #[.pointer (some ⟨pb, 0, none⟩), dv, fv] 68 (0, 0)))
    (hp : PlAt w pb bv bs s) (hf : FnsOwn w base fv l) (hbase : base ≤ w.heap.size) (hlt : ∀ b ∈ bs, b < 256) (hbl : bs.length ≤ 100000) (hbo : ∀ k, bv.ownBlock = some k → k < base) (hrb : base ≤ rb) (hll : l.length ≤ 1000) :
    Calls Tryz.prog 41 #[.pointer (some ⟨rb, 0, none⟩)] w (FnPost w base rb pb bv dv fv bs s l) := by
  unfold FnPost
  obtain ⟨fa, fc, rfl⟩ := owns_shape hf.row
  have hrl := (Array.getElem?_eq_some_iff.1 hr).1
  have hpl := (Array.getElem?_eq_some_iff.1 hp.obj).1
  have NRP := Lib.hid (block_ne hr hp.obj (by decide))
  have ATL := hp.le
  -- what is taken
  have HA : Hid (∀ b ∈ (fnA bs s).1, b < 256) := Lib.hid (takeP_lt hlt _ _)
  have LA : Hid ((fnA bs s).2.at_ ≤ bs.length) := Lib.hid (takeP_le hp.le)
  have LB : Hid ((fnBb bs s).2.at_ ≤ bs.length) := Lib.hid (takeP_le LA.out)
  have LC : Hid ((fnC bs s).2.at_ ≤ bs.length) := Lib.hid (takeP_le LB.out)
  have LD : Hid ((fnD bs s).1.length ≤ 4096 ∧ (∀ b ∈ (fnD bs s).1, b < 256)) := Lib.hid ⟨blockP_len bs 4096 _ LC.out, blockP_lt hlt _ _⟩
  have FP : Hid (functionP bs s = if (fnD bs s).2.er ≠ 0 then ([], (fnD bs s).2) else
    ([⟨(unle (fnA bs s).1 : Nat), (unle (fnBb bs s).1 : Nat), (unle (fnC bs s).1 : Nat), (fnSp bs s).is⟩], if (fnSp bs s).er ≠ 0 then failP (fnD bs s).2 10 ((fnD bs s).2.at_ - (fnD bs s).1.length : Int) else (fnD bs s).2)) := Lib.hid rfl
  have SPD : Hid (fnSp bs s = splitR (fnD bs s).1 ((fnD bs s).1.length + 1) [] [] 0) := Lib.hid rfl
  -- the worlds ahead
  have r1 := ((Fr.refl no w).alloc (.cells zeroFn 44)).alloc (.cells #[.slice none 0 0] 22)
  have F1 : Hid (((w.alloc (.cells zeroFn 44)).alloc (.cells #[.slice none 0 0] 22)).heap[w.heap.size]? = some (.cells zeroFn 44 (0, 0))) := Lib.hid (heap_new2 w _ _)
  have B1 : Hid (((w.alloc (.cells zeroFn 44)).alloc (.cells #[.slice none 0 0] 22)).heap[w.heap.size + 1]? = some (.cells #[.slice none 0 0] 22 (0, 0))) := Lib.hid (heap_new2' w _ _)
  have RR1 := Lib.hid (r1.heap hr (by simp))
  have P1 := Lib.hid (hp.fn r1)
  have R1 := Lib.hid (r1.to (T := only [pb]))
  have FO := Lib.hid hf
  have RW0 := Lib.hid hr
  have HLT := Lib.hid hlt
  have HBO := Lib.hid hbo
  have FPB : Hid (∀ w', Fr (only [pb]) w w' → FnsOwn w' base (.slice fa l.length fc) l) := Lib.hid (fun w' r => hf.odd r (fun k hk => .inr (by simp at hk; subst hk; exact ⟨_, _, hp.obj, by decide⟩)))
  clear hr hp hf r1 hlt hbo
  generalize hw1 : (w.alloc (.cells zeroFn 44)).alloc (.cells #[.slice none 0 0] 22) = w1 at *
  have hs1 : w1.heap.size = w.heap.size + 2 := by rw [← hw1]; simp
  have HS1 := Lib.hid hs1
  unfold zeroFn at hw1 F1
  have EA : Hid (takeP bs 1 s = fnA bs s) := Lib.hid rfl
  have EB : Hid (takeP bs 1 (fnA bs s).2 = fnBb bs s) := Lib.hid rfl
  have EC : Hid (takeP bs 2 (fnBb bs s).2 = fnC bs s) := Lib.hid rfl
  have ED : Hid (blockP bs 4096 (fnC bs s).2 = fnD bs s) := Lib.hid rfl
  generalize functionP bs s = fp at *
  generalize fnSp bs s = sp at *
  generalize fnD bs s = td at *
  generalize fnC bs s = tc at *
  generalize fnBb bs s = tb at *
  generalize fnA bs s = ta at *
  have N1 := Lib.hid (num_ok w1 rb pb w.heap.size 0 1 bv dv (.slice fa l.length fc) bs s _ _ RR1.out P1.out F1.out rfl (.inl rfl) HLT.out hbl (by omega) (fun k hk => by have := HBO.out k hk; omega))
  rw [EA.out] at N1
  clear EA
  go_enter Tryz.func41, Tryz.ntmps41
  go_wp2_with fail
  refine N1.out.mono ?_
  rintro e w2 ⟨rfl, hp2, hf2, r2⟩
  have P2 := Lib.hid hp2
  have F2 := Lib.hid hf2
  have RR2 := Lib.hid (r2.heap RR1.out (by have := NRP.out; simp; omega))
  have B2 := Lib.hid (r2.heap B1.out (by simp; omega))
  have R2 : Hid (Fr (only [pb]) w w2) := Lib.hid (R1.out.trans' r2 (fun k hk hn => by simp at hk hn; omega))
  have N2 := Lib.hid (num_ok w2 rb pb w.heap.size 1 1 bv dv (.slice fa l.length fc) bs ta.2 _ _ RR2.out P2.out F2.out rfl (.inl rfl) HLT.out hbl (by omega) (fun k hk => by have := HBO.out k hk; omega))
  rw [EB.out] at N2
  clear hp2 hf2 r2 N1 P1 F1 RR1 B1 R1 EB
  go_wp2_with fail
  refine N2.out.mono ?_
  rintro e w3 ⟨rfl, hp2, hf2, r2⟩
  have P3 := Lib.hid hp2
  have F3 := Lib.hid hf2
  have RR3 := Lib.hid (r2.heap RR2.out (by have := NRP.out; simp; omega))
  have B3 := Lib.hid (r2.heap B2.out (by simp; omega))
  have R3 : Hid (Fr (only [pb]) w w3) := Lib.hid (R2.out.trans' r2 (fun k hk hn => by simp at hk hn; omega))
  have N3 := Lib.hid (num_ok w3 rb pb w.heap.size 2 2 bv dv (.slice fa l.length fc) bs tb.2 _ _ RR3.out P3.out F3.out rfl (.inr rfl) HLT.out hbl (by omega) (fun k hk => by have := HBO.out k hk; omega))
  rw [EC.out] at N3
  clear hp2 hf2 r2 N2 P2 F2 RR2 B2 R2 EC
  go_wp2_with fail
  refine N3.out.mono ?_
  rintro e w4 ⟨rfl, hp2, hf2, r2⟩
  have P4 := Lib.hid hp2
  have F4 : Hid (w4.heap[w.heap.size]? = some (.cells #[.int .i64 (unle ta.1 : Nat), .int .i64 (unle tb.1 : Nat), .int .i64 (unle tc.1 : Nat), .slice none 0 0] 44 (0, 0))) := Lib.hid (by simpa using hf2)
  have RR4 := Lib.hid (r2.heap RR3.out (by have := NRP.out; simp; omega))
  have B4 := Lib.hid (r2.heap B3.out (by simp; omega))
  have R4 : Hid (Fr (only [pb]) w w4) := Lib.hid (R3.out.trans' r2 (fun k hk hn => by simp at hk hn; omega))
  have N4 := Lib.hid (block_ok w4 rb pb (w.heap.size + 1) 0 4096 bv dv (.slice fa l.length fc) bs tc.2 _ _ RR4.out P4.out B4.out (by simp) HLT.out hbl (by omega) (fun k hk => by have := HBO.out k hk; have := R4.out.size; omega) (by omega))
  rw [ED.out] at N4
  clear hp2 hf2 r2 N3 P3 F3 RR3 B3 R3 ED
  go_wp2_with fail
  refine N4.out.mono ?_
  rintro e w5 ⟨rfl, hp2, ⟨bvl, hb5, hv5, -⟩, r2⟩
  obtain ⟨ba, bc, rfl⟩ := owns_shape hv5
  have P5 := Lib.hid hp2
  have F5 := Lib.hid (r2.heap F4.out (by simp; omega))
  have RR5 := Lib.hid (r2.heap RR4.out (by have := NRP.out; simp; omega))
  have B5 : Hid (w5.heap[w.heap.size + 1]? = some (.cells #[.slice ba td.1.length bc] 22 (0, 0))) := Lib.hid (by simpa using hb5)
  have V5 := Lib.hid hv5
  have R5 : Hid (Fr (only [pb]) w w5) := Lib.hid (R4.out.trans' r2 (fun k hk hn => by simp at hk hn; have := hs1; omega))
  clear hp2 hb5 hv5 r2 N4 P4 F4 RR4 B4 R4
  generalize unle ta.1 = ua at *
  generalize unle tb.1 = ub at *
  generalize unle tc.1 = uc at *
  have c0 : w5.cell? ⟨rb, 0, none⟩ = some (.pointer (some ⟨pb, 0, none⟩)) := cell_of_heap RR5.out rfl
  have d2 : w5.cell? ⟨pb, 2, none⟩ = some (.int .i64 td.2.er) := cell_of_heap P5.out.obj rfl
  by_cases her : td.2.er = 0
  case neg =>
    have e1 : (td.2.er != 0) = true := by simpa using her
    have FQ : Hid (fp = ([], td.2)) := Lib.hid (by rw [FP.out, if_pos her])
    have FN := Lib.hid (FPB.out w5 R5.out)
    clear her
    go_wp2_with fail
    (try simp only [Exit.inBlock, Exit.then])
    refine bodyPost_ret (results_none rfl _ _ _) rfl ?_
    exact ⟨rfl, by rw [FQ.out]; exact P5.out, _, l, RR5.out, FN.out, by rw [FQ.out]; simp, R5.out.mono (fun k hk _ => by simp at hk; exact .inl hk)⟩
  have e1 : (td.2.er != 0) = false := by simpa using her
  have FQ0 : Hid (fp = ([⟨(ua : Nat), (ub : Nat), (uc : Nat), sp.is⟩], if sp.er ≠ 0 then failP td.2 10 (td.2.at_ - td.1.length : Int) else td.2)) := Lib.hid (by rw [FP.out, if_neg (by simpa using her)])
  have b5 : w5.cell? ⟨w.heap.size + 1, 0, none⟩ = some (.slice ba td.1.length bc) := cell_of_heap B5.out rfl
  have hlen5 := LD.out.1
  have SO := split_ok w5 _ td.1 ⟨owns_reads V5.out, LD.out.2, by omega, fun k hk => (V5.out.lt k hk).2⟩ (by omega)
  rw [← SPD.out] at SO
  have SOH := Lib.hid SO
  clear her SO FP
  go_wp2_with fail
  refine SOH.out.mono ?_
  rintro e w6 ⟨u, v6, cl, rfl, hcl, h1, h2, h3, -, -, -, r6⟩
  have CO : CodeOwn w6 base u sp.is := ⟨cl, hcl, owns_base h1 (fun k hk => by have := (h1.lt k hk).1; have := R5.out.size; omega), fun p hp => owns_base (h2 p hp) (fun k hk => by have := ((h2 p hp).lt k hk).1; have := R5.out.size; omega)⟩
  obtain ⟨ua6, uc6, rfl, -⟩ := CO.read
  have CO6 := Lib.hid CO
  have P6 := Lib.hid (P5.out.fn r6)
  have F6 := Lib.hid (r6.heap F5.out (by simp))
  have RR6 := Lib.hid (r6.heap RR5.out (by simp))
  have B6 := Lib.hid (r6.heap B5.out (by simp))
  have R6 : Hid (Fr (only [pb]) w w6) := Lib.hid (R5.out.trans (r6.to))
  clear SOH P5 F5 RR5 B5 R5 c0 d2 b5 h1 h2 h3 hcl cl r6 CO e1 V5
  have HX0 := Lib.hid (heap_new w6 (.cells #[.int .i64 0, .int .i64 0] 38))
  have FS := fault_setM w6 sp.er sp.fa
  go_upto_region 5 with (refine wpList_store_row rfl 38 (.tmp 6) (.tmp 29) rfl w6.heap.size #[.int .i64 sp.er, .int .i64 sp.fa] rfl rfl _ _ HX0.out (by rw [Tryz.infoFault]; rfl) rfl (by simp [Value.oneCell']) ?_; rw [act_put_none])
  generalize World.setRow _ w6.heap.size #[.int .i64 sp.er, .int .i64 sp.fa] = w7 at *
  have P7 := Lib.hid (P6.out.fn FS.out.2)
  have F7 := Lib.hid (FS.out.2.heap F6.out (by simp))
  have RR7 := Lib.hid (FS.out.2.heap RR6.out (by simp))
  have B7 := Lib.hid (FS.out.2.heap B6.out (by simp))
  have CO7 := Lib.hid (CO6.out.fn FS.out.2)
  have R7 : Hid (Fr (only [pb]) w w7) := Lib.hid (R6.out.trans (FS.out.2.to))
  have f0 := cell_of_heap (o := 0) FS.out.1 rfl
  have GB : Hid (w6.heap.size < w7.heap.size ∧ w.heap.size + 2 ≤ w6.heap.size) := Lib.hid ⟨(Array.getElem?_eq_some_iff.1 FS.out.1).1, by have := (Array.getElem?_eq_some_iff.1 B6.out).1; omega⟩
  clear FS HX0 P6 F6 RR6 B6 CO6 R6
  by_cases hse : sp.er = 0
  rotate_left
  focus
    have e1 : (sp.er != 0) = true := by simpa using hse
    have FQ : Hid (fp = ([⟨(ua : Nat), (ub : Nat), (uc : Nat), sp.is⟩], failP td.2 10 (td.2.at_ - td.1.length : Int))) := Lib.hid (by rw [FQ0.out, if_pos hse])
    clear hse FQ0
    have r0 := cell_of_heap (o := 0) (w := w7.drew) RR7.out rfl
    have p1 := cell_of_heap (o := 1) (w := w7.drew) P7.out.obj rfl
    have b0 := cell_of_heap (o := 0) (w := w7.drew) B7.out rfl
    have WB : IntKind.i64.wrap ((td.2.at_ : Int) - td.1.length) = (td.2.at_ : Int) - td.1.length := by
      have := P7.out.le
      rw [IntKind.wrap_i64] <;> omega
    have FA := Lib.hid (fail_ok w7.drew pb bv bs td.2 10 ((td.2.at_ : Int) - td.1.length) (P7.out.fn (Fr.refl no w7).drew))
    go_upto_region 6 with fail
    refine Lex.region [14] [15] (by kernel_rfl) (by kernel_rfl) ?_
    refine Lex.opens (fun w' => w'.cell? ⟨rb, 0, none⟩ = some (.pointer (some ⟨pb, 0, none⟩)) ∧ w'.cell? ⟨pb, 1, none⟩ = some (.int .i64 td.2.at_) ∧ w'.cell? ⟨w.heap.size + 1, 0, none⟩ = some (.slice ba td.1.length bc)) (⟨r0, p1, b0⟩) ?_
    repeat (first
      | (refine Lex.skips (by rfl) ?_; (try simp only [Act.put, List.setIfInBounds_toArray, List.set_cons_zero, List.set_cons_succ]))
      | (refine Lex.quiet (v := ?_) (by rfl) (by rfl) ?_ ?_; rotate_left; (focus (intro w' hS'; go_simp; try rfl)); (try simp only [Act.put, List.setIfInBounds_toArray, List.set_cons_zero, List.set_cons_succ])))
    refine Lex.loud (by rfl) (by rfl) ?_
    intro K' hK'
    go_simp
    refine FA.out.mono ?_
    rintro e WW ⟨rfl, hp8, r8⟩
    have r8' : Fr (only [pb]) w7 WW := ((Fr.refl no w7).drew.to).trans r8
    have WP : PlAt WW pb bv bs (failP td.2 10 (td.2.at_ - td.1.length : Int)) := hp8
    have WF := r8'.heap F7.out (by simp; omega)
    have WRR := r8'.heap RR7.out (by have := NRP.out; simp; omega)
    have WCO : CodeOwn WW base (.slice ua6 sp.is.length uc6) sp.is := CO7.out.odd (ts := [47, 3]) r8' (fun k hk => .inr (by simp at hk; subst hk; exact ⟨_, _, P7.out.obj, by decide⟩)) (by simp) (by simp)
    have WR : Fr (only [pb]) w WW := R7.out.trans r8'
    have WG : w.heap.size + 2 ≤ WW.heap.size := by have := GB.out; have := r8'.size; omega
    have y0 := r8.cell r0 (by have := NRP.out; simp; omega)
    have y1 : WW.cell? ⟨pb, 1, none⟩ = some (.int .i64 (failP td.2 10 (td.2.at_ - td.1.length : Int)).at_) := cell_of_heap hp8.obj rfl
    rw [failP_at] at y1
    have y2 := r8.cell b0 (by simp; omega)
    clear r0 p1 b0 hp8 r8 r8' FA P7 F7 RR7 B7 CO7 R7 f0 WB e1 GB
    generalize failP td.2 10 (td.2.at_ - td.1.length : Int) = s9 at *
    refine hK' _ _ (⟨y0, y1, y2⟩) ?_
    clear hK'
    try simp only [Act.put, List.setIfInBounds_toArray, List.set_cons_zero, List.set_cons_succ]
    refine Lex.done ?_
    refine Lex.ends ?_
    clear y0 y1 y2
  rotate_left
  focus
    have e1 : (sp.er != 0) = false := by simpa using hse
    have FQ : Hid (fp = ([⟨(ua : Nat), (ub : Nat), (uc : Nat), sp.is⟩], td.2)) := Lib.hid (by rw [FQ0.out, if_neg (by simpa using hse)])
    clear hse FQ0
    have WP := P7.out
    have WF := F7.out
    have WRR := RR7.out
    have WCO := CO7.out
    have WR := R7.out
    have WG : w.heap.size + 2 ≤ w7.heap.size := by have := GB.out; omega
    obtain ⟨WW, hWW⟩ : ∃ x, x = w7 := ⟨_, rfl⟩
    subst hWW
    obtain ⟨s9, hs9⟩ : ∃ x, td.2 = x := ⟨_, rfl⟩
    rw [hs9] at WP FQ
    clear hs9 P7 F7 RR7 B7 CO7 R7
  all_goals
    have WFH := Lib.hid WF
    have WPH := Lib.hid WP
    have WRRH := Lib.hid WRR
    have WCOH := Lib.hid WCO
    have WRH := Lib.hid WR
    have f3 : WW.frozen? ⟨w.heap.size, 3, none⟩ = false := frozen_of_heap WF
    have c3 : WW.cell? ⟨w.heap.size, 3, none⟩ = some (.slice none 0 0) := cell_of_heap WF rfl
    clear WF WP WRR WCO WR
    go_upto_region 8 with fail
    have rz : Fr (only [w.heap.size]) WW (WW.setCell ⟨w.heap.size, 3, none⟩ (.slice ua6 sp.is.length uc6)) := (Fr.refl _ WW).setCell _ _ (.inl (by simp))
    have ZF : (WW.setCell ⟨w.heap.size, 3, none⟩ (.slice ua6 sp.is.length uc6)).heap[w.heap.size]? = some (.cells #[.int .i64 ua, .int .i64 ub, .int .i64 uc, .slice ua6 sp.is.length uc6] 44 (0, 0)) := by
      have := heap_setCell (o := 3) (v := .slice ua6 sp.is.length uc6) WFH.out
      simpa using this
    have ZP := Lib.hid (WPH.out.fr rz (by simp; omega) (fun k hk => by have := HBO.out k hk; simp; omega))
    have ZRR := Lib.hid (rz.heap WRRH.out (by simp; omega))
    have ZCO : Hid (CodeOwn (WW.setCell ⟨w.heap.size, 3, none⟩ (.slice ua6 sp.is.length uc6)) base (.slice ua6 sp.is.length uc6) sp.is) := Lib.hid (WCOH.out.odd (ts := [47, 3]) rz (fun k hk => .inr (by simp at hk; subst hk; exact ⟨_, _, WFH.out, by decide⟩)) (by simp) (by simp))
    have ZR : Hid (Fr (only [pb]) w (WW.setCell ⟨w.heap.size, 3, none⟩ (.slice ua6 sp.is.length uc6))) := Lib.hid (WRH.out.trans' rz (fun k hk _ => by simp at hk; omega))
    have ZFO := Lib.hid (FPB.out _ ZR.out)
    have ZZ := Lib.hid ZF
    clear rz ZF f3 c3 WFH WPH WRRH WCOH WRH FPB
    generalize WW.setCell ⟨w.heap.size, 3, none⟩ (.slice ua6 sp.is.length uc6) = wz at *
    have d0 := Fr.drew (Fr.refl no wz)
    have z1 := d0.heap ZZ.out (by simp)
    have z2 : wz.drew.cell? ⟨rb, 2, none⟩ = some (.slice fa l.length fc) := cell_of_heap (w := wz.drew) ZRR.out rfl
    have hre := reads_four wz.drew (.int .i64 ua) (.int .i64 ub) (.int .i64 uc) (.slice ua6 sp.is.length uc6) 44
    have HRE := Lib.hid hre
    have hszz : base ≤ wz.heap.size := by have := ZR.out.size; omega
    have rq := d0.alloc (.cells #[.int .i64 ua, .int .i64 ub, .int .i64 uc, .slice ua6 sp.is.length uc6] 44)
    have QFO := Lib.hid (ZFO.out.fn rq)
    have QCO := Lib.hid (ZCO.out.fn rq)
    have QR := Lib.hid (ZR.out.trans (rq.to (T := only [pb])))
    have QP := Lib.hid (ZP.out.fn rq)
    have QRR := Lib.hid (rq.heap ZRR.out (by simp))
    have x1 := rq.heap ZZ.out (by simp)
    have x2 := rq.cell (cell_of_heap (o := 2) ZRR.out rfl) (by simp)
    have rz2 := rq
    clear hre rq
    refine Lex.region [7, 8, 12] [12, 1] (by kernel_rfl) (by kernel_rfl) ?_
    refine Lex.opens (fun w' => w'.heap[w.heap.size]? = some (.cells #[.int .i64 ua, .int .i64 ub, .int .i64 uc, .slice ua6 sp.is.length uc6] 44 (0, 0)) ∧ w'.cell? ⟨rb, 2, none⟩ = some (.slice fa l.length fc)) (⟨z1, z2⟩) ?_
    repeat (first
      | (refine Lex.skips (by rfl) ?_; (try simp only [Act.put, List.setIfInBounds_toArray, List.set_cons_zero, List.set_cons_succ]))
      | (refine Lex.row (by rfl) (by rfl) _ _ rfl _ rfl _ _ _ _ ((fun w' h => h.1)) Tryz.underlying44 rfl (by rw [Tryz.infoFunc]; rfl) ?_; (try simp only [Act.put, List.setIfInBounds_toArray, List.set_cons_zero, List.set_cons_succ]))
      | (refine Lex.quiet (v := ?_) (by rfl) (by rfl) ?_ ?_; rotate_left; (focus (intro w' hS'; go_simp; try rfl)); (try simp only [Act.put, List.setIfInBounds_toArray, List.set_cons_zero, List.set_cons_succ])))
    refine Lex.loud (by rfl) (by rfl) ?_
    intro K' hK'
    go_simp
    refine hK' _ _ (⟨x1, x2⟩) ?_
    clear hK'
    try simp only [Act.put, List.setIfInBounds_toArray, List.set_cons_zero, List.set_cons_succ]
    clear z1 z2 x1 x2
    refine Lex.loud (by rfl) (by rfl) ?_
    intro K' hK'
    refine wp_append_at (.tmp 55) (.tmp 57) 23 rfl base 44 (.agg zeroFn) 4 48 Tryz.underlying23 Tryz.infoFunc3 rfl (by decide) _ l.length _ rfl QFO.out.row 1 _ HRE.out (four_one _ _ _ _ _ _ ()) (by unfold maxLen; omega) (by omega) (Nat.le_trans hbase QR.out.size) ?_
    intro ga gc w12 ho hg hb
    have r12 := (Fr.refl (fun k => (Value.slice fa l.length fc).ownBlock = some k) _).grown hg (fun k hk => .inl hk)
    have FN := Lib.hid (QFO.out.app (p := (⟨(ua : Nat), (ub : Nat), (uc : Nat), sp.is⟩, ua6, uc6)) QCO.out hg ho)
    have FRR := Lib.hid (r12.heap QRR.out (row_block_ne QFO.out.row QRR.out (by decide)))
    have FPP := Lib.hid (QP.out.fr r12 (row_block_ne QFO.out.row QP.out.obj (by decide)) (fun k hk e => by have := HBO.out k hk; have := (FO.out.row.lt k e).1; omega))
    have FRF : Hid (Fr (fun k => k = pb ∨ k = rb ∨ (Value.slice fa l.length fc).ownBlock = some k) w w12) := Lib.hid ((QR.out.mono (fun k hk _ => by simp at hk; exact .inl hk)).trans (r12.mono (fun k hk _ => .inr (.inr hk))))
    have x1 := r12.heap (rz2.heap ZZ.out (by simp)) (fun e => by have := (FO.out.row.lt _ e).2; omega)
    have x2 : w12.cell? ⟨rb, 2, none⟩ = some (.slice fa l.length fc) := cell_of_heap FRR.out rfl
    have f2 : w12.frozen? ⟨rb, 2, none⟩ = false := frozen_of_heap FRR.out
    clear r12 ho hg hb rz2
    refine hK' _ _ (⟨x1, x2⟩) ?_
    clear hK'
    try simp only [Act.put, List.setIfInBounds_toArray, List.set_cons_zero, List.set_cons_succ]
    clear x1
    repeat (first
      | (refine Lex.skips (by rfl) ?_; (try simp only [Act.put, List.setIfInBounds_toArray, List.set_cons_zero, List.set_cons_succ]))
      | (refine Lex.row (by rfl) (by rfl) _ _ rfl _ rfl _ _ _ _ ((fun w' h => h.1)) Tryz.underlying44 rfl (by rw [Tryz.infoFunc]; rfl) ?_; (try simp only [Act.put, List.setIfInBounds_toArray, List.set_cons_zero, List.set_cons_succ]))
      | (refine Lex.quiet (v := ?_) (by rfl) (by rfl) ?_ ?_; rotate_left; (focus (intro w' hS'; go_simp; try rfl)); (try simp only [Act.put, List.setIfInBounds_toArray, List.set_cons_zero, List.set_cons_succ])))
    refine Lex.done ?_
    refine Lex.opens (fun _ => True) (trivial) ?_
    refine Lex.loud (by rfl) (by rfl) ?_
    intro K' hK'
    go_simp
    refine hK' _ _ (trivial) ?_
    clear hK'
    try simp only [Act.put, List.setIfInBounds_toArray, List.set_cons_zero, List.set_cons_succ]
    refine Lex.done ?_
    refine Lex.ends ?_
    go_wp2_with fail
    go_end0
    have rs : Fr (only [rb]) w12 (w12.setCell ⟨rb, 2, none⟩ (.slice ga (l.length + 1) gc)) := (Fr.refl _ w12).setCell _ _ (.inl (by simp))
    refine ⟨rfl, by rw [FQ.out]; exact FPP.out.fr rs (by have := NRP.out; simp; omega) (fun k hk => by have := HBO.out k hk; simp; omega), .slice ga (l.length + 1) gc, _, ?_, FN.out.odd rs (fun k hk => .inr (by simp at hk; subst hk; exact ⟨_, _, FRR.out, by decide⟩)), ?_, FRF.out.trans (rs.mono (fun k hk _ => by simp at hk; exact .inr (.inl hk)))⟩
    · have := heap_setCell (o := 2) (v := .slice ga (l.length + 1) gc) FRR.out
      simpa using this
    · rw [FQ.out]
      simp

end Go.Proofs.YtdngflhfhmnipaaGreat

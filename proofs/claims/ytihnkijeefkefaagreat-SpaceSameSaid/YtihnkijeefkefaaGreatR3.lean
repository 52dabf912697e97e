import Derived.Test.YtihnkijeefkefaaGreatR2
set_option linter.unusedSimpArgs false
set_option linter.unusedVariables false
set_option linter.unusedSectionVars false
set_option linter.unnecessarySimpa false
set_option maxRecDepth 100000
/- The document's space: Return, End, Outcome. -/
namespace Go.Proofs.YtihnkijeefkefaaGreat
open Go.RowKit

attribute [local go_sem] Program.isFuncB Program.isSliceB

variable {w w' w'' w0 : World} {O R : Nat → Prop} {p : Nat} {s s' : Zp} {z : Rz}

theorem Tryz.infoLink : (Tryz.prog.info? 143).map (·.size) = some 4 := by kernel_rfl
set_option maxHeartbeats 4000000 in
theorem rreturn_ok (w : World) (v : Nat) (hv : v < 18446744073709551616) (h : RSpAt w O R p s z) : Calls Tryz.prog 87 #[.pointer (some ⟨p, 0, none⟩), .int .u64 v] w fun e w' => e = .returned (.int .i64 (s.retS v).2) ∧ RSpTo w w' O R p (s.retS v).1 := by
  have c9 : w.cell? ⟨p, 9, none⟩ = some (.int .i64 s.e.1) := cell_of_heap h.obj rfl
  have H := Lib.hid h
  by_cases he : s.e.1 = 0
  case neg =>
    have HQ := Lib.hid (retS_9 he v)
    have hb : (s.e.1 != 0) = true := by simpa using he
    clear h he
    go_enter Tryz.func87, Tryz.ntmps87
    go_wp2_with fail
    go_ret
    rw [HQ.out]
    exact ⟨rfl, H.out.to (Fr.refl _ _)⟩
  rw [he] at c9
  obtain ⟨ka, kc, hkv⟩ := owns_shape h.links
  rcases List.eq_nil_or_concat s.ls with hl | ⟨l, x, hl⟩
  · have HQ := Lib.hid (retS_1 he hl v)
    have HOK : Hid ((s.retS v).1.Ok) := Lib.hid (h.ok.retS v)
    rw [HQ.out] at HOK
    have c8 : w.cell? ⟨p, 8, none⟩ = some z.kv := cell_of_heap h.obj rfl
    rw [hkv, hl] at c8
    have c8' : w.cell? ⟨p, 8, none⟩ = some (.slice ka 0 kc) := c8
    clear c8
    have hrm : (v : Int) % 256 = ((v % 256 : Nat) : Int) := by omega
    have hcv : IntKind.i64.wrap ((v % 256 : Nat) : Int) = ((v % 256 : Nat) : Int) := by rw [IntKind.wrap_i64]; omega
    have hcu : IntKind.u64.wrap ((v % 256 : Nat) : Int) = ((v % 256 : Nat) : Int) := by rw [IntKind.wrap_u64]; omega
    have HT := Lib.hid (there_of (o := 9) (n := 2) h.obj (show 9 + 2 ≤ 11 from by decide))
    have HS := Lib.hid (h.endS (1, ((v % 256 : Nat) : Int)) HOK.out)
    clear h he hl hkv HOK
    generalize v % 256 = v2 at *
    go_enter Tryz.func87, Tryz.ntmps87
    go_wp2_with ((refine wpList_store_mid (op := ⟨none, .store 43 (.tmp 27) (.tmp 25), _, _, _, _⟩) rfl 43 (.tmp 27) (.tmp 25) rfl p 9 #[.int .i64 1, .int .i64 v2] rfl rfl HT.out (by rw [Tryz.infoEnd]; rfl) (by simp [Value.oneCell']) ?_; rw [act_put_none]))
    go_ret
    rw [HQ.out]
    exact ⟨rfl, HS.out.1.to HS.out.2⟩
  · have HQ := Lib.hid (retS_0 he (by simpa using hl) v)
    have hl' : s.ls = l ++ [x] := by simpa using hl
    have hlast : s.ls.getLast? = some x := by rw [hl']; simp
    have hup := h.ok.up he hlast
    have hlk := h.ok.ls x (by rw [hl']; simp)
    have HOK1 : Hid (({ s with ls := l } : Zp).Ok) := Lib.hid (by
      refine ⟨h.ok.ck, h.ok.sm, h.ok.bl, h.ok.b16, h.ok.bb, h.ok.lo, h.ok.al, h.ok.a16, h.ok.fi, h.ok.fit, fun y hy => ?_, ?_, h.ok.ip, h.ok.il, h.ok.ib, h.ok.f0, h.ok.f1, h.ok.pl, h.ok.em⟩
      · have k := h.ok.ls y (by rw [hl']; simp [hy])
        exact ⟨k.fi, k.lo, k.fit, k.al, k.a16, k.rg, k.pl⟩
      · have := h.ok.ll; rw [hl'] at this; simp at this; show l.length ≤ 256; omega)
    obtain ⟨m, hm⟩ : ∃ m, m = l.length + 1 := ⟨_, rfl⟩
    have hlen : s.ls.length = m := by rw [hl', hm]; simp
    have HLK : Hid (w.ownsRow 0 143 4 (.slice ka m kc) m (rlinksC (l ++ [x]))) := Lib.hid (by have := h.links; rw [hkv, hlen, hl'] at this; exact this)
    have c8 : w.cell? ⟨p, 8, none⟩ = some (.slice ka m kc) := by
      have c : w.cell? ⟨p, 8, none⟩ = some z.kv := cell_of_heap h.obj rfl
      rw [hkv, hlen] at c
      exact c
    obtain ⟨b, ob, hka, hat⟩ := reads_elem (owns_reads HLK.out) (z := 4) (k := l.length) (by decide) (by omega)
    have hkv2 : z.kv = .slice (some ⟨b, ob, none⟩) m kc := by rw [hkv, hlen, hka]
    subst hka
    have hob : ob = 0 := by
      rcases HLK.out.2 with ⟨hh, -⟩ | ⟨g', cap', cur, hh, -⟩
      · cases hh
      · injection hh with e1; injection e1 with e1; injection e1
    subst hob
    rw [rlinksC_last, Nat.zero_add] at hat
    have HAT := Lib.hid hat
    have LINK : Hid (∀ w', RSpAt w' O R p s z → w'.ownsRow 0 143 4 (.slice (some ⟨b, 0, none⟩) l.length kc) l.length (rlinksC l) ∧ z.kv.ownBlock = some b) := Lib.hid (fun w' h' => by
      have hl2 : w'.ownsRow 0 143 4 (.slice (some ⟨b, 0, none⟩) m kc) m (rlinksC (l ++ [x])) := by have := h'.links; rw [hkv2, hlen, hl'] at this; exact this
      have := owns_cut (m := l.length) hl2 (by omega) (by simp)
      rw [rlinksC_take] at this
      exact ⟨this, by rw [hkv2]; rfl⟩)
    have HMC : Hid (m ≤ kc) := Lib.hid (cap_of_reads (owns_reads HLK.out))
    have hw1 : IntKind.i64.wrap ((m : Int) - 1) = (l.length : Int) := by rw [IntKind.wrap_i64]; have := h.ok.ll; omega
    have hn1 : ¬ (l.length : Int) < 0 := by omega
    have hlt : (l.length : Int) < m := by omega
    have hle : (l.length : Int) ≤ kc := by have := HMC.out; omega
    have HX : Hid ((s.up x) = { ({ s with ls := l } : Zp) with f := x.f, at_ := x.at_, pc := x.back }) := Lib.hid (by unfold Zp.up; rw [hl']; simp)
    have HUR : Hid ((s.up x).Ok) := Lib.hid hup.1
    rw [HX.out] at HUR
    clear h he hl hl' hkv hkv2 hlast hup hlk hlen hm HLK hat
    generalize hnl : l.length = n at *
    have HNL := Lib.hid hnl
    clear hnl
    go_enter Tryz.func87, Tryz.ntmps87
    go_upto_region 7 with (fail)
    go_upto_region 8 with (first | (refine wpList_load_in (o := ⟨some 34, .load 143 (.tmp 33), _, _, _, _⟩) rfl 143 (.tmp 33) rfl b _ rfl _ _ HAT.out Tryz.underlying143 rfl (by rw [Tryz.infoLink]; rfl) ?_))
    have r2 := (Fr.refl no w).alloc (.cells #[.int .i64 x.f, .int .u64 x.at_, .int .i64 x.back, .int .i64 x.res] 143)
    have hn2 := heap_new w (.cells #[.int .i64 x.f, .int .u64 x.at_, .int .i64 x.back, .int .i64 x.res] 143)
    have hsz2 : (w.alloc (.cells #[.int .i64 x.f, .int .u64 x.at_, .int .i64 x.back, .int .i64 x.res] 143)).heap.size = w.heap.size + 1 := by simp
    generalize w.alloc (.cells #[.int .i64 x.f, .int .u64 x.at_, .int .i64 x.back, .int .i64 x.res] 143) = w2 at *
    have h2 := H.out.fr r2
    have hpb : p < w.heap.size := H.out.lt p (.inl H.out.op)
    have d8 : w2.cell? ⟨p, 8, none⟩ = some (.slice (some ⟨b, 0, none⟩) m kc) := r2.cell c8 (by simp)
    have f8 : w2.frozen? ⟨p, 8, none⟩ = false := frozen_of_heap h2.obj
    have hlk := LINK.out _ h2
    have r3 := (Fr.refl (only [p]) w2).setCell ⟨p, 8, none⟩ (.slice (some ⟨b, 0, none⟩) n kc) (.inl (by simp))
    have hs3 := h2.linkS (w' := w2.setCell ⟨p, 8, none⟩ (.slice (some ⟨b, 0, none⟩) n kc)) (l' := l) (kv' := .slice (some ⟨b, 0, none⟩) n kc) (r3.mono (fun k hk _ => .inl (by simpa using hk))) (heap_setCell (o := 8) h2.obj)
      (by rw [HNL.out]; exact owns_fr hlk.1 r3 (fun k hk e => by simp at e; subst e; exact row_block_ne h2.links h2.obj (by decide) (by rw [hlk.2]; exact hk))) (fun k hk => .inl (by rw [hlk.2]; exact hk)) HOK1.out
    have HN3 := Lib.hid (r3.heap hn2 (by simp; omega))
    have R2 := Lib.hid r2
    have H3 := Lib.hid hs3
    clear r2 hn2 h2 hlk r3 hs3 c8 c9
    go_upto_region 9 with (fail)
    generalize hw3 : w2.setCell ⟨p, 8, none⟩ (.slice (some ⟨b, 0, none⟩) n kc) = w3 at *
    clear hw3 d8 f8
    have hd := H3.out.1
    have R3 := Lib.hid ((R2.out.to (T := O)).trans H3.out.2)
    generalize hz4 : ({ z with kv := .slice (some ⟨b, 0, none⟩) n kc } : Rz) = z4 at *
    generalize hO4 : (fun k => O k ∨ (w2.heap.size ≤ k ∧ k < w3.heap.size)) = O4 at *
    have HO4 : Hid ((∀ k, O k → O4 k) ∧ ∀ k, O4 k → O k ∨ w.heap.size ≤ k) := Lib.hid (by
      subst hO4
      exact ⟨fun k h => .inl h, fun k h => h.imp id (fun h => Nat.le_trans R2.out.size h.1)⟩)
    have hm := hd.moveS (f := x.f) (t := x.at_) (pc := x.back) HUR.out
    have hbp : w.heap.size ≠ p := by omega
    have a0 : w3.cell? ⟨w.heap.size, 0, none⟩ = some (.int .i64 x.f) := cell_of_heap HN3.out rfl
    have a1 : w3.cell? ⟨w.heap.size, 1, none⟩ = some (.int .u64 x.at_) := cell_of_heap HN3.out rfl
    have a2 : w3.cell? ⟨w.heap.size, 2, none⟩ = some (.int .i64 x.back) := cell_of_heap HN3.out rfl
    have a3 : w3.cell? ⟨w.heap.size, 3, none⟩ = some (.int .i64 x.res) := cell_of_heap HN3.out rfl
    have e5 : w3.cell? ⟨p, 5, none⟩ = some (.int .i64 s.f) := cell_of_heap hd.obj rfl
    have e6 : w3.cell? ⟨p, 6, none⟩ = some (.int .u64 s.at_) := cell_of_heap hd.obj rfl
    have e7 : w3.cell? ⟨p, 7, none⟩ = some (.int .i64 s.pc) := cell_of_heap hd.obj rfl
    have f5 : w3.frozen? ⟨p, 5, none⟩ = false := frozen_of_heap hd.obj
    have f6 : w3.frozen? ⟨p, 6, none⟩ = false := frozen_of_heap hd.obj
    have f7 : w3.frozen? ⟨p, 7, none⟩ = false := frozen_of_heap hd.obj
    have HM := Lib.hid hm
    rw [← HX.out] at HM
    clear hd hm hz4 hO4
    go_wp2_with fail
    generalize hw6 : ((w3.setCell ⟨p, 5, none⟩ (.int .i64 x.f)).setCell ⟨p, 6, none⟩ (.int .u64 x.at_)).setCell ⟨p, 7, none⟩ (.int .i64 x.back) = w6 at *
    clear hw6 a0 a1 a2 a3 e5 e6 e7 f5 f6 f7
    refine (rset_ok w6 x.res v hv HM.out.1).mono ?_
    rintro e w7 ⟨rfl, h7, r7⟩
    have HF : Hid (RSpTo w w7 O R p ((s.up x).setS x.res v).1) := Lib.hid ⟨O4, z4, h7, (R3.out.trans (HM.out.2.mono (fun k hk _ => by simp at hk; subst hk; exact H.out.op))).trans' r7 (fun i hi hn => ((HO4.out.2 i hi).resolve_left hn)), HO4.out⟩
    clear h7 r7
    go_wp2_with fail
    go_ret
    rw [HQ.out]
    exact ⟨rfl, HF.out⟩

end Go.Proofs.YtihnkijeefkefaaGreat

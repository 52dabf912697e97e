import Derived.Test.YtihnkijeefkefaaGreatQ13
set_option linter.unusedSimpArgs false
set_option linter.unusedVariables false
set_option linter.unusedSectionVars false
set_option linter.unnecessarySimpa false
set_option maxRecDepth 100000
/- The program's space: Return. -/
namespace Go
theorem wp_store1 {P : Program} {o : Oper} {a : Act} {w : World} {K : Act → World → Prop} {Q : Exit → Act → World → Prop} (ty : TypeId) (x y : Operand) (ho : o.op = .store ty x y) (b f : Nat) (k : IntKind) (n : Int)
    (hx : a.eval x = .pointer (some ⟨b, f, none⟩)) (hy : a.eval y = .int k n) (hi : (P.info? ty).map (·.size) = some 1) (cells : Array Value) (t : TypeId) (hh : w.heap[b]? = some (.cells cells t (0, 0))) (hf : f < cells.size)
    (h : K (a.put o.dst undef) (w.setCell ⟨b, f, none⟩ (.int k n))) : o.wp P a w K Q := by
  have hs : (Instr.storeAt ty (.pointer (some ⟨b, f, none⟩)) (.int k n)).run P w = .ok () (w.setCell ⟨b, f, none⟩ (.int k n)) := by
    have hc := cell_of_heap (o := f) (v := cells[f]) hh (Array.getElem?_eq_getElem hf)
    have hz : w.frozen? ⟨b, f, none⟩ = false := frozen_of_heap hh
    cases hq : P.info? ty with
    | none => simp [hq] at hi
    | some i =>
      have h1 : i.size = 1 := by simpa [hq] using hi
      have ha : (⟨b, f, none⟩ : Addr).add 0 = ⟨b, f, none⟩ := by rw [Addr.add_lit]; rfl
      have hst : (store ⟨b, f, none⟩ (.int k n)).run P w = .ok () (w.setCell ⟨b, f, none⟩ (.int k n)) := by
        rw [run_store P w _ _ _ rfl, hc]
        simp [hz]
      simp [Instr.storeAt, Instr.sureAddr, storeVar, sizeOf, typeInfo, hq, h1, Value.cells, storeCells, ha, hst]
  unfold Oper.wp execOp
  simp only [ho, hx, hy, hs, Sem.run_bind, Sem.run_pure, Result.andThen_ok]
  exact h
end Go
namespace Go.Proofs.YtihnkijeefkefaaGreat
open Go.RowKit

attribute [local go_sem] Program.isFuncB Program.isSliceB

variable {w w' w'' w0 : World} {O R : Nat → Prop} {p : Nat} {s s' : Zp} {z : Pz}

theorem owns_cut {base m n size : Nat} {e : TypeId} {a : Option Addr} {c : Nat} {xs : List Value} (h : w.ownsRow base e size (.slice a n c) n xs) (hm : m ≤ n) (h0 : a ≠ none) : w.ownsRow base e size (.slice a m c) m (xs.take (m * size)) := by
  refine ⟨by have := h.1; rw [List.length_take, this, Nat.min_eq_left (Nat.mul_le_mul_right _ hm)], ?_⟩
  rcases h.2 with ⟨hv, _⟩ | ⟨g', cap', cur, hv, hb, hg, h1, h2, h3, h4⟩
  · injection hv with e1; exact absurd e1 h0
  · injection hv with e1 e2 e3
    subst e1; subst e3
    refine .inr ⟨g', _, cur, rfl, hb, hg, by omega, h2, h3, ?_⟩
    rw [← h4, List.take_take, Nat.min_eq_left (Nat.mul_le_mul_right _ hm)]
theorem linksC_take (l m : List Lk) : (linksC (l ++ m)).take (l.length * 4) = linksC l := by
  rw [linksC_app, List.take_left' (linksC_len l)]
theorem linksC_last (l : List Lk) (x : Lk) : ((linksC (l ++ [x])).drop (l.length * 4)).take 4 = [.int .i64 x.f, .int .i64 x.at_, .int .i64 x.back, .int .i64 x.res] := by
  rw [linksC_app, List.drop_left' (linksC_len l)]; rfl

/-- its links are turned -/
theorem SpAt.linkS {l' : List Lk} {kv' : Value} (h : SpAt w O R p s z) (r : Fr (fun k => k = p ∨ z.kv.ownBlock = some k) w w') (ho : w'.heap[p]? = some (.cells (spCells { s with ls := l' } { z with kv := kv' }) 94 (0, 0)))
    (hk : w'.ownsRow 0 121 4 kv' l'.length (linksC l')) (hn : ∀ k, kv'.ownBlock = some k → z.kv.ownBlock = some k ∨ w.heap.size ≤ k) (hok : ({ s with ls := l' } : Zp).Ok) :
    SpAt w' (fun k => O k ∨ (w.heap.size ≤ k ∧ k < w'.heap.size)) R p { s with ls := l' } { z with kv := kv' } ∧ Fr O w w' := by
  have hO : ∀ k, (k = p ∨ z.kv.ownBlock = some k) → O k := fun k hk => by rcases hk with rfl | hk; exact h.op; exact h.okv k hk
  have hR : ∀ k, R k → ¬ (k = p ∨ z.kv.ownBlock = some k) := fun k hk e => h.dis k (hO k e) hk
  refine ⟨⟨ho, ?_, ?_, hk, h.ro.fr r (fun k hk _ => hR k hk), hok, .inl h.op, .inl h.og, .inl h.ot, fun k hk => .inl (h.ol k hk), ?_, h.rq, h.rt, ?_, ?_⟩, r.mono (fun k hk _ => hO k hk)⟩
  · exact h.mem.frx r (fun e => hR _ h.rq e) (fun e => by
      obtain ⟨cur, hg, -⟩ := h.mem.block
      rcases e with e | e
      · exact h.pg e.symm
      · exact row_block_ne h.links hg (by decide) e)
  · exact h.tape.frx r (fun e => by
      rcases e with e | e
      · exact h.pt e.symm
      · exact row_block_ne h.links h.tape.obj (by decide) e) (fun k hk e => hR k (h.rt k hk) e) (fun k hk e => by
      rcases e with e | e
      · subst e; exact row_block_ne h.tape.out h.obj (by decide) hk
      · exact rows_ne h.tape.out h.links (by decide) k hk e)
  · intro k hk'
    rcases hn k hk' with e | e
    · exact .inl (h.okv k e)
    · exact .inr ⟨e, (hk.lt k hk').2⟩
  · intro k hk hr
    rcases hk with hk | hk
    · exact h.dis k hk hr
    · have := h.lt k (.inr hr); omega
  · intro k hk
    rcases hk with (hk | hk) | hk
    · exact Nat.lt_of_lt_of_le (h.lt k (.inl hk)) r.size
    · exact hk.2
    · exact Nat.lt_of_lt_of_le (h.lt k (.inr hk)) r.size
/-- function, frame and place are turned -/
theorem SpAt.moveS {f : Nat} {t : Nat} {pc : Int} (h : SpAt w O R p s z) (hok : ({ s with f := f, at_ := t, pc := pc } : Zp).Ok) :
    SpAt (((w.setCell ⟨p, 13, none⟩ (.int .i64 f)).setCell ⟨p, 12, none⟩ (.int .u64 t)).setCell ⟨p, 14, none⟩ (.int .i64 pc)) O R p { s with f := f, at_ := t, pc := pc } z ∧
      Fr (only [p]) w (((w.setCell ⟨p, 13, none⟩ (.int .i64 f)).setCell ⟨p, 12, none⟩ (.int .u64 t)).setCell ⟨p, 14, none⟩ (.int .i64 pc)) := by
  have r := (((Fr.refl (only [p]) w).setCell ⟨p, 13, none⟩ (.int .i64 f) (.inl (by simp))).setCell ⟨p, 12, none⟩ (.int .u64 t) (.inl (by simp))).setCell ⟨p, 14, none⟩ (.int .i64 pc) (.inl (by simp))
  exact ⟨h.turn r (heap_setCell (o := 14) (heap_setCell (o := 12) (heap_setCell (o := 13) h.obj))) rfl rfl rfl rfl rfl rfl hok, r⟩
theorem retS_9 (h : ¬ s.e.1 = 0) (v : Nat) : s.retS v = (s, 9) := by simp [Zp.retS, h]
theorem retS_1 (h : s.e.1 = 0) (hl : s.ls = []) (v : Nat) : s.retS v = ({ s with e := (1, (v % 256 : Nat)) }, 0) := by simp [Zp.retS, h, hl]
theorem retS_0 (h : s.e.1 = 0) {l : List Lk} {x : Lk} (hl : s.ls = l ++ [x]) (v : Nat) : s.retS v = (s.up x).setS x.res v := by simp [Zp.retS, h, hl]
theorem u64_and255 (v : Nat) (hv : v < 18446744073709551616) : bits .and .u64 (v : Int) 255 = ((v % 256 : Nat) : Int) := by
  have h255 : (BitVec.ofInt 64 255).toNat = 2 ^ 8 - 1 := by decide
  have key : (BitVec.ofInt 64 (v : Int) &&& BitVec.ofInt 64 255).toNat = v % 2 ^ 8 := by
    rw [BitVec.toNat_and, BitVec.toNat_ofInt, h255, Nat.and_two_pow_sub_one_eq_mod]
    congr 1
    omega
  show IntKind.u64.wrap ((BitVec.ofInt 64 (v : Int) &&& BitVec.ofInt 64 255).toNat : Nat) = _
  rw [key, IntKind.wrap_u64]
  omega
theorem Tryz.infoFour : (Tryz.prog.info? 121).map (·.size) = some 4 := by kernel_rfl
theorem Tryz.sizeInt1 : (Tryz.prog.info? 3).map (·.size) = some 1 := by kernel_rfl
theorem Tryz.sizeU641 : (Tryz.prog.info? 34).map (·.size) = some 1 := by kernel_rfl

set_option maxHeartbeats 2000000 in
theorem sreturn_ok (w : World) (v : Nat) (hv : v < 18446744073709551616) (h : SpAt w O R p s z) : Calls Tryz.prog 20 #[.pointer (some ⟨p, 0, none⟩), .int .u64 v] w fun e w' => e = .returned (.int .i64 (s.retS v).2) ∧ SpTo w w' O R p (s.retS v).1 := by
  have HA := Lib.hid (sasked_ok w h)
  have H := Lib.hid h
  by_cases he : s.e.1 = 0
  case neg =>
    have HQ := Lib.hid (retS_9 he v)
    have HE := Lib.hid (ask_9 he)
    clear h he
    go_enter Tryz.func20, Tryz.ntmps20
    go_wp2_with fail
    refine HA.out.mono ?_
    rintro e w1 ⟨rfl, r1⟩
    rw [HE.out]
    have R1 := Lib.hid r1
    have H1 := Lib.hid (H.out.fr r1)
    clear r1
    go_wp2_with fail
    go_ret
    rw [HQ.out]
    exact ⟨rfl, H1.out.to R1.out.to⟩
  have HE := Lib.hid (ask_0 he)
  have HAND := Lib.hid (u64_and255 v hv)
  obtain ⟨ka, kc, hkv⟩ := owns_shape h.links
  rcases List.eq_nil_or_concat s.ls with hl | ⟨l, x, hl⟩
  · have HQ := Lib.hid (retS_1 he hl v)
    have HOK : Hid ((s.retS v).1.Ok) := Lib.hid (h.ok.retS v)
    rw [HQ.out] at HOK
    have C : Hid (∀ w', SpAt w' O R p s z → w'.cell? ⟨p, 15, none⟩ = some (.slice ka 0 kc)) := Lib.hid (fun w' h' => by
      have c : w'.cell? ⟨p, 15, none⟩ = some z.kv := cell_of_heap h'.obj rfl
      rw [hkv, hl] at c
      exact c)
    have hand := HAND.out
    have hcv : IntKind.i64.wrap ((v % 256 : Nat) : Int) = ((v % 256 : Nat) : Int) := by rw [IntKind.wrap_i64]; omega
    clear h he hl hkv
    generalize v % 256 = v2 at *
    go_enter Tryz.func20, Tryz.ntmps20
    go_wp2_with fail
    refine HA.out.mono ?_
    rintro e w1 ⟨rfl, r1⟩
    rw [HE.out]
    have R1 := Lib.hid r1
    have H1 := Lib.hid (H.out.fr r1)
    clear r1
    have c15 := C.out _ H1.out
    have HT := Lib.hid (there_of (o := 16) (n := 2) H1.out.obj (show 16 + 2 ≤ 18 from by decide))
    have HS := Lib.hid (H1.out.endS (1, (v2 : Int)) HOK.out)
    go_wp2_with ((refine wpList_store_mid (op := ⟨none, .store 43 (.tmp 27) (.tmp 25), _, _, _, _⟩) rfl 43 (.tmp 27) (.tmp 25) rfl p 16 #[.int .i64 1, .int .i64 v2] rfl rfl HT.out (by rw [Tryz.infoEnd]; rfl) (by simp [Value.oneCell']) ?_; rw [act_put_none]))
    go_ret
    rw [HQ.out]
    exact ⟨rfl, (HS.out.1.to HS.out.2).pre R1.out⟩
  · have HQ := Lib.hid (retS_0 he (by simpa using hl) v)
    have hl' : s.ls = l ++ [x] := by simpa using hl
    have hlast : s.ls.getLast? = some x := by rw [hl']; simp
    have hup := h.ok.up he hlast
    have HUP := Lib.hid hup
    have hlk := h.ok.ls x (by rw [hl']; simp)
    have hxat : (x.at_ : Int) ≤ 65536 := by have := hlk.al; have := h.ok.bl; omega
    have hwx : IntKind.u64.wrap (x.at_ : Int) = x.at_ := by rw [IntKind.wrap_u64]; omega
    have HOK1 : Hid (({ s with ls := l } : Zp).Ok) := Lib.hid (by
      refine ⟨h.ok.ck, h.ok.sm, h.ok.bl, h.ok.b16, h.ok.bb, h.ok.lo, h.ok.al, h.ok.a16, h.ok.fi, h.ok.fit, fun y hy => ?_, ?_, h.ok.ip, h.ok.il, h.ok.ib, h.ok.f0, h.ok.f1, h.ok.pl, h.ok.em⟩
      · have k := h.ok.ls y (by rw [hl']; simp [hy])
        exact ⟨k.fi, k.lo, k.fit, k.al, k.a16, k.rg, k.pl⟩
      · have := h.ok.ll; rw [hl'] at this; simp at this; show l.length ≤ 256; omega)
    obtain ⟨m, hm⟩ : ∃ m, m = l.length + 1 := ⟨_, rfl⟩
    have hlen : s.ls.length = m := by rw [hl', hm]; simp
    have HLK : Hid (w.ownsRow 0 121 4 (.slice ka m kc) m (linksC (l ++ [x]))) := Lib.hid (by have := h.links; rw [hkv, hlen, hl'] at this; exact this)
    have C : Hid (∀ w', SpAt w' O R p s z → w'.cell? ⟨p, 15, none⟩ = some (.slice ka m kc)) := Lib.hid (fun w' h' => by
      have c : w'.cell? ⟨p, 15, none⟩ = some z.kv := cell_of_heap h'.obj rfl
      rw [hkv, hlen] at c
      exact c)
    obtain ⟨b, ob, hka, -⟩ := reads_elem (owns_reads HLK.out) (z := 4) (k := l.length) (by decide) (by omega)
    have hkv2 : z.kv = .slice (some ⟨b, ob, none⟩) m kc := by rw [hkv, hlen, hka]
    subst hka
    have hob : ob = 0 := by
      rcases HLK.out.2 with ⟨hh, -⟩ | ⟨g', cap', cur, hh, -⟩
      · cases hh
      · injection hh with e1; injection e1 with e1; injection e1
    subst hob
    have AT : Hid (∀ w', SpAt w' O R p s z → At w' b (l.length * 4) [.int .i64 x.f, .int .i64 x.at_, .int .i64 x.back, .int .i64 x.res]) := Lib.hid (fun w' h' => by
      have hl2 : w'.ownsRow 0 121 4 (.slice (some ⟨b, 0, none⟩) m kc) m (linksC (l ++ [x])) := by have := h'.links; rw [hkv2, hlen, hl'] at this; exact this
      obtain ⟨b', o', hh, ha⟩ := reads_elem (owns_reads hl2) (z := 4) (k := l.length) (by decide) (by omega)
      rw [linksC_last] at ha
      injection hh with e1; injection e1 with e1 e2 e3
      subst e1; subst e2
      rw [Nat.zero_add] at ha
      exact ha)
    have LINK : Hid (∀ w', SpAt w' O R p s z → w'.ownsRow 0 121 4 (.slice (some ⟨b, 0, none⟩) l.length kc) l.length (linksC l) ∧ z.kv.ownBlock = some b) := Lib.hid (fun w' h' => by
      have hl2 : w'.ownsRow 0 121 4 (.slice (some ⟨b, 0, none⟩) m kc) m (linksC (l ++ [x])) := by have := h'.links; rw [hkv2, hlen, hl'] at this; exact this
      have := owns_cut (m := l.length) hl2 (by omega) (by simp)
      rw [linksC_take] at this
      exact ⟨this, by rw [hkv2]; rfl⟩)
    have HMC : Hid (m ≤ kc) := Lib.hid (cap_of_reads (owns_reads HLK.out))
    have HLL : Hid (m = l.length + 1) := Lib.hid hm
    have hw1 : IntKind.i64.wrap ((m : Int) - 1) = (l.length : Int) := by rw [IntKind.wrap_i64]; have := h.ok.ll; omega
    have hn1 : ¬ (l.length : Int) < 0 := by omega
    have hlt : (l.length : Int) < m := by omega
    have hle : (l.length : Int) ≤ kc := by have := HMC.out; omega
    have HX : Hid ((s.up x) = { ({ s with ls := l } : Zp) with f := x.f, at_ := x.at_, pc := x.back }) := Lib.hid (by unfold Zp.up; rw [hl']; simp)
    have HUR : Hid ((s.up x).Ok) := Lib.hid HUP.out.1
    rw [HX.out] at HUR
    clear h he hl hl' hkv hkv2 hlast hup hlk hlen hm HLK HUP
    generalize hnl : l.length = n at *
    have HNL := Lib.hid hnl
    clear hnl
    go_enter Tryz.func20, Tryz.ntmps20
    go_wp2_with fail
    refine HA.out.mono ?_
    rintro e w1 ⟨rfl, r1⟩
    rw [HE.out]
    have R1 := Lib.hid r1
    have H1 := Lib.hid (H.out.fr r1)
    clear r1
    have c15 := C.out _ H1.out
    have hat := AT.out _ H1.out
    have HAT := Lib.hid hat
    go_upto_region 8 with (fail)
    go_upto_region 9 with (first | (refine wpList_load_in (o := ⟨some 34, .load 121 (.tmp 33), _, _, _, _⟩) rfl 121 (.tmp 33) rfl b _ rfl _ _ HAT.out Tryz.underlying121 rfl (by rw [Tryz.infoFour]; rfl) ?_))
    have r2 := (Fr.refl no w1).alloc (.cells #[.int .i64 x.f, .int .i64 x.at_, .int .i64 x.back, .int .i64 x.res] 121)
    have hn2 := heap_new w1 (.cells #[.int .i64 x.f, .int .i64 x.at_, .int .i64 x.back, .int .i64 x.res] 121)
    have hsz2 : (w1.alloc (.cells #[.int .i64 x.f, .int .i64 x.at_, .int .i64 x.back, .int .i64 x.res] 121)).heap.size = w1.heap.size + 1 := by simp
    generalize w1.alloc (.cells #[.int .i64 x.f, .int .i64 x.at_, .int .i64 x.back, .int .i64 x.res] 121) = w2 at *
    have h2 := H1.out.fr r2
    have hpb : p < w1.heap.size := H1.out.lt p (.inl H1.out.op)
    have d15 : w2.cell? ⟨p, 15, none⟩ = some (.slice (some ⟨b, 0, none⟩) m kc) := C.out _ h2
    have f15 : w2.frozen? ⟨p, 15, none⟩ = false := frozen_of_heap h2.obj
    have hlk := LINK.out _ h2
    have r3 := (Fr.refl (only [p]) w2).setCell ⟨p, 15, none⟩ (.slice (some ⟨b, 0, none⟩) n kc) (.inl (by simp))
    have hs3 := h2.linkS (w' := w2.setCell ⟨p, 15, none⟩ (.slice (some ⟨b, 0, none⟩) n kc)) (l' := l) (kv' := .slice (some ⟨b, 0, none⟩) n kc) (r3.mono (fun k hk _ => .inl (by simpa using hk))) (heap_setCell (o := 15) h2.obj)
      (by rw [HNL.out]; exact owns_fr hlk.1 r3 (fun k hk e => by simp at e; subst e; exact row_block_ne h2.links h2.obj (by decide) (by rw [hlk.2]; exact hk))) (fun k hk => .inl (by rw [hlk.2]; exact hk)) HOK1.out
    have HN3 := Lib.hid (r3.heap hn2 (by simp; omega))
    have R2 := Lib.hid (R1.out.trans r2)
    have H3 := Lib.hid hs3
    clear r2 hn2 h2 hlk r3 hs3 hat c15
    go_wp2_with fail
    generalize hw3 : w2.setCell ⟨p, 15, none⟩ (.slice (some ⟨b, 0, none⟩) n kc) = w3 at *
    clear hw3
    have hd := H3.out.1.fr (Fr.refl no w3).drew
    have R3 := Lib.hid ((R2.out.to (T := O)).trans (H3.out.2.trans (Fr.refl no w3).drew.to))
    have NX := Lib.hid ((Fr.refl no w3).drew.heap HN3.out (by simp))
    generalize hz4 : ({ z with kv := .slice (some ⟨b, 0, none⟩) n kc } : Pz) = z4 at *
    generalize hO4 : (fun k => O k ∨ (w2.heap.size ≤ k ∧ k < w3.heap.size)) = O4 at *
    have HO4 : Hid ((∀ k, O k → O4 k) ∧ ∀ k, O4 k → O k ∨ w.heap.size ≤ k) := Lib.hid (by
      subst hO4
      exact ⟨fun k h => .inl h, fun k h => h.imp id (fun h => Nat.le_trans R2.out.size h.1)⟩)
    have hm := hd.moveS (f := x.f) (t := x.at_) (pc := x.back) HUR.out
    have HD := Lib.hid hd.obj
    have HD1 := Lib.hid (heap_setCell (o := 13) (v := .int .i64 x.f) HD.out)
    have HD2 := Lib.hid (heap_setCell (o := 12) (v := .int .u64 x.at_) HD1.out)
    have hbp : w1.heap.size ≠ p := by omega
    have NX1 := Lib.hid (((Fr.refl (only [p]) w3.drew).setCell ⟨p, 13, none⟩ (.int .i64 x.f) (.inl (by simp))).heap NX.out (by simpa using hbp))
    have NX2 := Lib.hid ((((Fr.refl (only [p]) w3.drew).setCell ⟨p, 13, none⟩ (.int .i64 x.f) (.inl (by simp))).setCell ⟨p, 12, none⟩ (.int .u64 x.at_) (.inl (by simp))).heap NX.out (by simpa using hbp))
    have NX3 := Lib.hid (hm.2.heap NX.out (by simpa using hbp))
    have HM := Lib.hid hm
    rw [← HX.out] at HM
    have CX : Hid (∀ w' : World, w'.heap[w1.heap.size]? = some (.cells #[.int .i64 x.f, .int .i64 x.at_, .int .i64 x.back, .int .i64 x.res] 121 (0, 0)) → (fun w' : World => w'.cell? ⟨w1.heap.size, 0, none⟩ = some (.int .i64 x.f) ∧ w'.cell? ⟨w1.heap.size, 1, none⟩ = some (.int .i64 x.at_) ∧ w'.cell? ⟨w1.heap.size, 2, none⟩ = some (.int .i64 x.back)) w') := Lib.hid (fun w' h => ⟨cell_of_heap h rfl, cell_of_heap h rfl, cell_of_heap h rfl⟩)
    have c63 : (((w3.drew.setCell ⟨p, 13, none⟩ (.int .i64 x.f)).setCell ⟨p, 12, none⟩ (.int .u64 x.at_)).setCell ⟨p, 14, none⟩ (.int .i64 x.back)).cell? ⟨w1.heap.size, 3, none⟩ = some (.int .i64 x.res) := cell_of_heap NX3.out rfl
    clear hd hm hz4 hO4
    refine Lex.region [12, 15, 18] [16, 3] (by kernel_rfl) (by kernel_rfl) ?_
    refine Lex.opens (fun w' => w'.cell? ⟨w1.heap.size, 0, none⟩ = some (.int .i64 x.f) ∧ w'.cell? ⟨w1.heap.size, 1, none⟩ = some (.int .i64 x.at_) ∧ w'.cell? ⟨w1.heap.size, 2, none⟩ = some (.int .i64 x.back)) ((CX.out _ NX.out)) ?_
    repeat (first
      | (refine Lex.skips (by rfl) ?_; (try simp only [Act.put, List.setIfInBounds_toArray, List.set_cons_zero, List.set_cons_succ]))
      | (refine Lex.quiet (v := ?_) (by rfl) (by rfl) ?_ ?_; rotate_left; (focus (intro w' hS'; go_simp; try rfl)); (try simp only [Act.put, List.setIfInBounds_toArray, List.set_cons_zero, List.set_cons_succ])))
    refine Lex.loud (by rfl) (by rfl) ?_
    intro K' hK'
    refine wp_store1 3 (.tmp 55) (.tmp 48) rfl p 13 .i64 x.f rfl rfl Tryz.sizeInt1 _ _ HD.out (show 13 < 18 from by decide) ?_
    refine hK' _ _ ((CX.out _ NX1.out)) ?_
    clear hK'
    try simp only [Act.put, List.setIfInBounds_toArray, List.set_cons_zero, List.set_cons_succ]
    repeat (first
      | (refine Lex.skips (by rfl) ?_; (try simp only [Act.put, List.setIfInBounds_toArray, List.set_cons_zero, List.set_cons_succ]))
      | (refine Lex.quiet (v := ?_) (by rfl) (by rfl) ?_ ?_; rotate_left; (focus (intro w' hS'; go_simp; try rfl)); (try simp only [Act.put, List.setIfInBounds_toArray, List.set_cons_zero, List.set_cons_succ])))
    refine Lex.loud (by rfl) (by rfl) ?_
    intro K' hK'
    refine wp_store1 34 (.tmp 57) (.tmp 51) rfl p 12 .u64 x.at_ rfl rfl Tryz.sizeU641 _ _ HD1.out (by rw [Array.size_setIfInBounds]; exact (show 12 < 18 from by decide)) ?_
    refine hK' _ _ ((CX.out _ NX2.out)) ?_
    clear hK'
    try simp only [Act.put, List.setIfInBounds_toArray, List.set_cons_zero, List.set_cons_succ]
    refine Lex.done ?_
    refine Lex.opens (fun w' => w'.cell? ⟨w1.heap.size, 0, none⟩ = some (.int .i64 x.f) ∧ w'.cell? ⟨w1.heap.size, 1, none⟩ = some (.int .i64 x.at_) ∧ w'.cell? ⟨w1.heap.size, 2, none⟩ = some (.int .i64 x.back)) ((CX.out _ NX2.out)) ?_
    repeat (first
      | (refine Lex.skips (by rfl) ?_; (try simp only [Act.put, List.setIfInBounds_toArray, List.set_cons_zero, List.set_cons_succ]))
      | (refine Lex.quiet (v := ?_) (by rfl) (by rfl) ?_ ?_; rotate_left; (focus (intro w' hS'; go_simp; try rfl)); (try simp only [Act.put, List.setIfInBounds_toArray, List.set_cons_zero, List.set_cons_succ])))
    refine Lex.loud (by rfl) (by rfl) ?_
    intro K' hK'
    refine wp_store1 3 (.tmp 59) (.tmp 53) rfl p 14 .i64 x.back rfl rfl Tryz.sizeInt1 _ _ HD2.out (by rw [Array.size_setIfInBounds, Array.size_setIfInBounds]; exact (show 14 < 18 from by decide)) ?_
    refine hK' _ _ ((CX.out _ NX3.out)) ?_
    clear hK'
    try simp only [Act.put, List.setIfInBounds_toArray, List.set_cons_zero, List.set_cons_succ]
    repeat (first
      | (refine Lex.skips (by rfl) ?_; (try simp only [Act.put, List.setIfInBounds_toArray, List.set_cons_zero, List.set_cons_succ]))
      | (refine Lex.quiet (v := ?_) (by rfl) (by rfl) ?_ ?_; rotate_left; (focus (intro w' hS'; go_simp; try rfl)); (try simp only [Act.put, List.setIfInBounds_toArray, List.set_cons_zero, List.set_cons_succ])))
    refine Lex.done ?_
    refine Lex.ends ?_
    generalize hw6 : ((w3.drew.setCell ⟨p, 13, none⟩ (.int .i64 x.f)).setCell ⟨p, 12, none⟩ (.int .u64 x.at_)).setCell ⟨p, 14, none⟩ (.int .i64 x.back) = w6 at *
    clear hw6
    go_wp2_with fail
    refine (sset_ok w6 x.res v hv HM.out.1).mono ?_
    rintro e w7 ⟨rfl, h7, r7⟩
    have HF : Hid (SpTo w w7 O R p ((s.up x).setS x.res v).1) := Lib.hid ⟨O4, z4, h7, (R3.out.trans (HM.out.2.mono (fun k hk _ => by simp at hk; subst hk; exact H.out.op))).trans' r7 (fun i hi hn => ((HO4.out.2 i hi).resolve_left hn)), HO4.out⟩
    clear h7 r7
    go_wp2_with fail
    go_ret
    rw [HQ.out]
    exact ⟨rfl, HF.out⟩

end Go.Proofs.YtihnkijeefkefaaGreat

import Derived.Test.YtihnkijeefkefaaGreatQ22
set_option linter.unusedSimpArgs false
set_option linter.unusedVariables false
set_option linter.unusedSectionVars false
set_option linter.unnecessarySimpa false
set_option maxRecDepth 100000
/- The program's space is made. -/
namespace Go.Proofs.YtihnkijeefkefaaGreat
open Go.RowKit

attribute [local go_sem] Program.isFuncB Program.isSliceB

variable {w w' w'' w0 : World} {p : Nat} {s s' : Zp}

/-- a space under way: what Set needs of it -/
structure RawAt (w : World) (p : Nat) (cs : Array Value) (da : Option Addr) (dc : Nat) (fa : Option Addr) (fc q g c : Nat) (s : Zp) : Prop where
  obj : w.heap[p]? = some (.cells cs 94 (0, 0))
  c5 : cs[5]? = some (.slice fa s.m.f.length fc)
  c8 : cs[8]? = some (.pointer (some ⟨q, 0, none⟩))
  c12 : cs[12]? = some (.int .u64 s.at_)
  c13 : cs[13]? = some (.int .i64 s.f)
  c16 : cs[16]? = some (.int .i64 0)
  mem : MemAt w q g s.b.length c s.b
  mod : ModIn w s.m da dc fa
  ok : s.Ok
  e0 : s.e.1 = 0
section
variable {cs : Array Value} {da fa : Option Addr} {dc fc q g c : Nat}
theorem RawAt.fr (h : RawAt w p cs da dc fa fc q g c s) (r : Fr no w w') : RawAt w' p cs da dc fa fc q g c s := ⟨r.heap h.obj (by simp), h.c5, h.c8, h.c12, h.c13, h.c16, h.mem.fr r, h.mod.fr r, h.ok, h.e0⟩
theorem RawAt.none_ok (w : World) (h : RawAt w p cs da dc fa fc q g c s) : Calls Tryz.prog 60 #[.pointer (some ⟨p, 0, none⟩)] w fun e w' => e = .returned (.bool false) ∧ w = w' := by
  have c0 : w.cell? ⟨p, 8, none⟩ = some (.pointer (some ⟨q, 0, none⟩)) := cell_of_heap h.obj h.c8
  clear h
  go_enter Tryz.func60, Tryz.ntmps60
  go_wp2_with fail
  go_ret
  exact ⟨rfl, rfl⟩
theorem RawAt.has_ok (w : World) (k : Nat) (hk : s.rg k = true) (h : RawAt w p cs da dc fa fc q g c s) : Calls Tryz.prog 63 #[.pointer (some ⟨p, 0, none⟩), .int .i64 k] w fun e w' => e = .returned (.bool true) ∧ Fr no w w' := by
  obtain ⟨b, ob, ca, cc, hfa, hin⟩ := h.mod.fns s.f h.ok.fi
  have hr := hin.four.2.1
  rw [← fnOf_get h.ok.fi] at hr
  have c5 : w.cell? ⟨p, 5, none⟩ = some (.slice fa s.m.f.length fc) := cell_of_heap h.obj h.c5
  rw [hfa] at c5
  have c13 : w.cell? ⟨p, 13, none⟩ = some (.int .i64 s.f) := cell_of_heap h.obj h.c13
  have hlt : (s.f : Int) < s.m.f.length := by have := h.ok.fi; omega
  have hkn : (k : Int) < (fnOf s.m s.f).r := by have := of_decide_eq_true hk; omega
  clear h hfa hin hk
  generalize (fnOf s.m s.f).r = n at *
  generalize s.f = f at *
  generalize s.m.f.length = fl at *
  have h0 : (k : Int) ≥ 0 := by omega
  go_enter Tryz.func63, Tryz.ntmps63
  go_wp2_with fail
  go_quiet (fail)
  go_wp2_with fail
  go_ret
  exact ⟨rfl, (Fr.refl _ _).drewN _⟩
theorem RawAt.set_ok (w : World) (k v : Nat) (hv : v < 18446744073709551616) (hr : s.rg k = true) (h : RawAt w p cs da dc fa fc q g c s) (hpg : p ≠ g) (hm : ∀ w', Fr (only [g]) w w' → ModIn w' s.m da dc fa) :
    Calls Tryz.prog 25 #[.pointer (some ⟨p, 0, none⟩), .int .i64 k, .int .u64 v] w fun e w' => e = .returned (.int .i64 0) ∧ RawAt w' p cs da dc fa fc q g c (s.putR k v) ∧ Fr (only [g]) w w' := by
  have HN := Lib.hid (h.none_ok w)
  have c16 : w.cell? ⟨p, 16, none⟩ = some (.int .i64 0) := cell_of_heap h.obj h.c16
  have H := Lib.hid h
  have HH := Lib.hid (h.has_ok w k hr)
  have hin := h.ok.inR h.e0 hr
  have hbl := h.ok.bl
  have HS := Lib.hid (fun w => slot_ok w s.at_ k (by have := h.ok.al; omega) (by omega))
  have HL := Lib.hid (fun w' (r' : Fr no w w') => store_in w' (s.at_ + 8 * k) v 8 rfl (h.fr r').mem (by omega) hbl hv (by unfold inB; exact decide_eq_true (by simp at hin; omega)))
  have C := Lib.hid (fun w' (r' : Fr no w w') => (⟨cell_of_heap (h.fr r').obj h.c8, cell_of_heap (h.fr r').obj h.c12⟩ : w'.cell? ⟨p, 8, none⟩ = some (.pointer (some ⟨q, 0, none⟩)) ∧ w'.cell? ⟨p, 12, none⟩ = some (.int .u64 s.at_)))
  have HOK : Hid ((s.putR k v).Ok) := Lib.hid (h.ok.putR (by simp at hin; omega))
  have HPG := Lib.hid hpg
  have HMD := Lib.hid hm
  clear h hr hin hm
  go_enter Tryz.func25, Tryz.ntmps25
  go_wp2_with fail
  refine HN.out.mono ?_
  rintro e w' ⟨rfl, rfl⟩
  go_wp2_with fail
  refine HH.out.mono ?_
  rintro e w2 ⟨rfl, r2⟩
  have R2 := Lib.hid r2
  clear r2
  go_wp2_with fail
  have R3 := Lib.hid (R2.out.trans (Fr.refl no w2).drew)
  refine Lex.region [9, 11] [12, 1] (by kernel_rfl) (by kernel_rfl) ?_
  refine Lex.opens (fun w' => w'.cell? ⟨p, 8, none⟩ = some (.pointer (some ⟨q, 0, none⟩)) ∧ w'.cell? ⟨p, 12, none⟩ = some (.int .u64 s.at_)) ((C.out _ R3.out)) ?_
  repeat (first
    | (refine Lex.skips (by rfl) ?_; (try simp only [Act.put, List.setIfInBounds_toArray, List.set_cons_zero, List.set_cons_succ]))
    | (refine Lex.quiet (v := ?_) (by rfl) (by rfl) ?_ ?_; rotate_left; (focus (intro w' hS'; go_simp; try rfl)); (try simp only [Act.put, List.setIfInBounds_toArray, List.set_cons_zero, List.set_cons_succ])))
  refine Lex.loud (by rfl) (by rfl) ?_
  intro K' hK'
  go_simp
  refine (HS.out _).mono ?_
  rintro e w3 ⟨rfl, rfl⟩
  refine hK' _ _ ((C.out _ R3.out)) ?_
  clear hK'
  try simp only [Act.put, List.setIfInBounds_toArray, List.set_cons_zero, List.set_cons_succ]
  repeat (first
    | (refine Lex.skips (by rfl) ?_; (try simp only [Act.put, List.setIfInBounds_toArray, List.set_cons_zero, List.set_cons_succ]))
    | (refine Lex.quiet (v := ?_) (by rfl) (by rfl) ?_ ?_; rotate_left; (focus (intro w' hS'; go_simp; try rfl)); (try simp only [Act.put, List.setIfInBounds_toArray, List.set_cons_zero, List.set_cons_succ])))
  refine Lex.loud (by rfl) (by rfl) ?_
  intro K' hK'
  go_simp
  refine (HL.out _ R3.out).mono ?_
  rintro e w4 ⟨rfl, hm, r4⟩
  have RG := Lib.hid ((R3.out.to (T := only [g])).trans r4)
  have HO4 := Lib.hid (r4.heap (H.out.fr R3.out).obj (by simp; exact HPG.out))
  have HBL : Hid ((s.putR k v).b.length = s.b.length) := Lib.hid (by rw [← hm.len]; rfl)
  have HM4 := Lib.hid hm
  have HC4 : Hid (w4.cell? ⟨p, 8, none⟩ = some (.pointer (some ⟨q, 0, none⟩)) ∧ w4.cell? ⟨p, 12, none⟩ = some (.int .u64 s.at_)) := Lib.hid ⟨cell_of_heap HO4.out H.out.c8, cell_of_heap HO4.out H.out.c12⟩
  clear r4 hm
  refine hK' _ _ (HC4.out) ?_
  clear hK'
  try simp only [Act.put, List.setIfInBounds_toArray, List.set_cons_zero, List.set_cons_succ]
  repeat (first
    | (refine Lex.skips (by rfl) ?_; (try simp only [Act.put, List.setIfInBounds_toArray, List.set_cons_zero, List.set_cons_succ]))
    | (refine Lex.quiet (v := ?_) (by rfl) (by rfl) ?_ ?_; rotate_left; (focus (intro w' hS'; go_simp; try rfl)); (try simp only [Act.put, List.setIfInBounds_toArray, List.set_cons_zero, List.set_cons_succ])))
  refine Lex.done ?_
  refine Lex.opens (fun _ => True) (trivial) ?_
  repeat (first
    | (refine Lex.skips (by rfl) ?_; (try simp only [Act.put, List.setIfInBounds_toArray, List.set_cons_zero, List.set_cons_succ]))
    | (refine Lex.quiet (v := ?_) (by rfl) (by rfl) ?_ ?_; rotate_left; (focus (intro w' hS'; go_simp; try rfl)); (try simp only [Act.put, List.setIfInBounds_toArray, List.set_cons_zero, List.set_cons_succ])))
  refine Lex.done ?_
  refine Lex.ends ?_
  go_wp2_with fail
  go_ret
  exact ⟨rfl, ⟨HO4.out, H.out.c5, H.out.c8, H.out.c12, H.out.c13, H.out.c16, by rw [HBL.out]; exact HM4.out, HMD.out _ RG.out, HOK.out, H.out.e0⟩, RG.out⟩
end

/-- a space's cells, behind whatever it begins with -/
def spCellsH (h0 h1 h2 h3 : Value) (s : Zp) (z : Pz) : Array Value := #[h0, h1, h2, h3, .slice z.da s.m.d.length z.dc, .slice z.fa s.m.f.length z.fc, z.iv, .int .i64 s.b.length,
  .pointer (some ⟨z.q, 0, none⟩), .pointer (some ⟨z.t, 0, none⟩), .int .i64 s.fuel, .int .u64 (flr s.m), .int .u64 s.at_, .int .i64 s.f, .int .i64 s.pc, z.kv, .int .i64 s.e.1, .int .i64 s.e.2]
/-- behind make -/
structure Made (w w' : World) (p : Nat) (h0 h1 h2 h3 : Value) (da : Option Addr) (dc : Nat) (fa : Option Addr) (fc : Nat) (iv : Value) (s : Zp) (z : Pz) : Prop where
  eda : z.da = da
  edc : z.dc = dc
  efa : z.fa = fa
  efc : z.fc = fc
  eiv : z.iv = iv
  ekv : z.kv = .slice none 0 0
  elv : z.lv = .slice none 0 0
  obj : w'.heap[p]? = some (.cells (spCellsH h0 h1 h2 h3 s z) 94 (0, 0))
  mem : MemAt w' z.q z.g s.b.length z.c s.b
  tape : TapeAt w' 0 z.t s.inp s.pos s.ds z.tv z.lv
  bq : w.heap.size ≤ z.q
  bg : w.heap.size ≤ z.g
  bt : w.heap.size ≤ z.t
  bv : ∀ k, z.tv.ownBlock = some k → w.heap.size ≤ k
  ng : ¬ z.tv.ownBlock = some z.g
  fr : Fr (only [p]) w w'
theorem infoFn4b : (Tryz.prog.info? 41).map (·.size) = some 4 := by kernel_rfl
section
variable {m : Mx} {n : Nat} {inp : List Nat} {fuel : Int} {da fa : Option Addr} {dc fc : Nat} {iv h0 h1 h2 h3 : Value}
set_option maxHeartbeats 1000000 in
theorem make_full (w : World) (hobj : w.heap[p]? = some (.cells #[h0, h1, h2, h3, .slice da m.d.length dc, .slice fa m.f.length fc, iv, .int .i64 n, .pointer none, .pointer none, .int .i64 fuel, .int .u64 0, .int .u64 0, .int .i64 0, .int .i64 0, .slice none 0 0, .int .i64 0, .int .i64 0] 94 (0, 0))) (hd : m.d.length ≤ 8192) (n0 : 16 ≤ n) (n1 : n ≤ 65536) (hfl : n < flr m) :
    Calls Tryz.prog 125 #[.pointer (some ⟨p, 0, none⟩)] w fun e w' => e = .returned (.int .i64 8) ∧ w = w' := by
  have c4 : w.cell? ⟨p, 4, none⟩ = some (.slice da m.d.length dc) := cell_of_heap hobj rfl
  have c7 : w.cell? ⟨p, 7, none⟩ = some (.int .i64 n) := cell_of_heap hobj rfl
  have hn0 : ((n : Int) == 0) = false := by rw [beq_eq_false_iff_ne]; omega
  have hw : IntKind.u64.wrap (n : Int) = n := by rw [IntKind.wrap_u64]; omega
  have hgt : ((r16 (16 + m.d.length) : Nat) : Int) > n := by rw [flr_r16] at hfl; omega
  clear hobj
  go_enter Tryz.func125, Tryz.ntmps125
  go_wp2_with fail
  refine (floor_ok _ m.d.length hd).mono ?_
  rintro e w' ⟨rfl, rfl⟩
  generalize r16 (16 + m.d.length) = fl at *
  go_wp2_with fail
  go_ret
  exact ⟨rfl, rfl⟩
set_option maxHeartbeats 8000000 in
theorem make_ok (w : World) (ha : NewArg m n inp fuel) (hobj : w.heap[p]? = some (.cells #[h0, h1, h2, h3, .slice da m.d.length dc, .slice fa m.f.length fc, iv, .int .i64 n, .pointer none, .pointer none, .int .i64 fuel, .int .u64 0, .int .u64 0, .int .i64 0, .int .i64 0, .slice none 0 0, .int .i64 0, .int .i64 0] 94 (0, 0))) (hm : ModIn w m da dc fa) (hpm : ∀ w', Fr (only [p]) w w' → ModIn w' m da dc fa ∧ Reads w' iv 1 inp.length (u8s inp)) (hin : Reads w iv 1 inp.length (u8s inp)) :
    Calls Tryz.prog 125 #[.pointer (some ⟨p, 0, none⟩)] w fun e w' => e = .returned (.int .i64 0) ∧ ∃ z, Made w w' p h0 h1 h2 h3 da dc fa fc iv (newS m n inp fuel) z := by
  obtain ⟨fb, fo, ca, cl, hfa, hfat⟩ := hm.fns 0 ha.fi
  have c := fnOf_ck ha.ck ha.fi
  have hdl := (ck_len ha.ck).1
  obtain ⟨rn, hrn⟩ : ∃ rn : Nat, (fnOf m 0).r = rn := ⟨(fnOf m 0).r.toNat, by omega⟩
  obtain ⟨an, han⟩ : ∃ an : Nat, (fnOf m 0).a = an := ⟨(fnOf m 0).a.toNat, by omega⟩
  obtain ⟨pn, hpn⟩ : ∃ pn : Nat, (fnOf m 0).p = pn := ⟨(fnOf m 0).p.toNat, by omega⟩
  have hrn64 : rn ≤ 64 := by omega
  have han96 : an ≤ 4096 := by omega
  have hpn8 : pn ≤ 8 := by omega
  have HPN : Hid ((fnOf m 0).p.toNat = pn) := Lib.hid (by omega)
  have HFS : Hid (fsz (fnOf m 0) = r16 (8 * rn + an)) := Lib.hid (by rw [fsz_r16 (by omega) (by omega), hrn, han]; rfl)
  have HFR : Hid (r16 (16 + m.d.length) = flr m) := Lib.hid (flr_r16 m).symm
  have HMOD := Lib.hid hm
  have HARG := Lib.hid ha
  have HOBJ := Lib.hid hobj
  have HIV := Lib.hid hin
  have HDR := Lib.hid hm.data
  have HPB : Hid (p < w.heap.size) := Lib.hid (Array.getElem?_eq_some_iff.1 hobj).1
  have c4 : w.cell? ⟨p, 4, none⟩ = some (.slice da m.d.length dc) := cell_of_heap hobj rfl
  have c7 : w.cell? ⟨p, 7, none⟩ = some (.int .i64 n) := cell_of_heap hobj rfl
  have c8 : w.cell? ⟨p, 8, none⟩ = some (.pointer none) := cell_of_heap hobj rfl
  have n0 := ha.n0
  have n1 := ha.n1
  have hn0 : ((n : Int) == 0) = false := by rw [beq_eq_false_iff_ne]; omega
  have hw : IntKind.u64.wrap (n : Int) = n := by rw [IntKind.wrap_u64]; omega
  have hgt : ¬ (flr m : Int) > n := by have := ha.fl; omega
  have hfl0 : (0 : Int) < m.f.length := by have := ha.fi; omega
  have HLT0 := Lib.hid ha.fi
  have HINB : Hid (inB n 16 m.d.length = true) := Lib.hid (by unfold inB; exact decide_eq_true ⟨by omega, ha.room⟩)
  have HF16 := Lib.hid (flr_16 m)
  have HN16 := Lib.hid ha.n16
  have HFL := Lib.hid ha.fl
  have HBL0 := Lib.hid ha.blen
  have HPM := Lib.hid hpm
  have HIL := Lib.hid ha.il
  have HIB := Lib.hid ha.ib
  have HDLT := Lib.hid ha.sm.lt
  have HFA := Lib.hid hfa
  have FU : Hid (∀ w', Fr (only [p]) w w' → ∃ ua un uc, At w' fb fo [.int .i64 pn, .int .i64 rn, .int .i64 an, .slice ua un uc]) := Lib.hid (fun w' r => by
    obtain ⟨b', o', ca', cl', e1, e2⟩ := (hpm w' r).1.fns 0 ha.fi
    rw [hfa] at e1
    cases e1
    have hf2 := e2.cell
    rw [Nat.zero_mul, Nat.add_zero, ← fnOf_get ha.fi] at hf2
    rw [← hpn, ← hrn, ← han]
    exact ⟨_, _, _, hf2⟩)
  clear hm hfat hobj hin hrn han hpn c hpm hfa
  go_enter Tryz.func125, Tryz.ntmps125
  go_wp2_with fail
  refine (floor_ok _ m.d.length hdl).mono ?_
  rintro e w' ⟨rfl, rfl⟩
  rw [HFR.out]
  go_wp2_with fail
  refine (mnew_ok _ n n0 n1).mono ?_
  rintro e w1 ⟨q, g, cp, rfl, hmem, hbq, hbg, r1⟩
  have hob1 := r1.heap HOBJ.out (by simp)
  have d8 : w1.cell? ⟨p, 8, none⟩ = some (.pointer none) := cell_of_heap hob1 rfl
  have f8 : w1.frozen? ⟨p, 8, none⟩ = false := frozen_of_heap hob1
  have R1 := Lib.hid r1
  have HO1 := Lib.hid hob1
  have HM1 := Lib.hid hmem
  have HBQ := Lib.hid hbq
  have HBG := Lib.hid hbg
  clear r1 hob1 hmem hbq hbg c4 c7 c8
  go_upto_region 9 with (fail)
  have r2 := (Fr.refl (only [p]) w1).setCell ⟨p, 8, none⟩ (.pointer (some ⟨q, 0, none⟩)) (.inl (by simp))
  have HO2 : Hid ((w1.setCell ⟨p, 8, none⟩ (.pointer (some ⟨q, 0, none⟩))).drew.heap[p]? = some (.cells #[h0, h1, h2, h3, .slice da m.d.length dc, .slice fa m.f.length fc, iv, .int .i64 n, .pointer (some ⟨q, 0, none⟩), .pointer none, .int .i64 fuel, .int .u64 0, .int .u64 0, .int .i64 0, .int .i64 0, .slice none 0 0, .int .i64 0, .int .i64 0] 94 (0, 0))) := Lib.hid (heap_setCell (o := 8) HO1.out)
  have HM2 : Hid (MemAt (w1.setCell ⟨p, 8, none⟩ (.pointer (some ⟨q, 0, none⟩))).drew q g n cp (List.replicate n 0)) := Lib.hid ((HM1.out.frx r2 (by have := HBQ.out; have := HPB.out; simp; omega) (by have := HBG.out; have := HPB.out; simp; omega)).fr (Fr.refl no _).drew)
  have R2 := Lib.hid ((R1.out.to (T := only [p])).trans (r2.trans (Fr.refl no _).drew.to))
  clear r2 d8 f8
  generalize w1.setCell ⟨p, 8, none⟩ (.pointer (some ⟨q, 0, none⟩)) = w2 at *
  have S2 : Hid (w2.drew.cell? ⟨p, 8, none⟩ = some (.pointer (some ⟨q, 0, none⟩)) ∧ w2.drew.cell? ⟨p, 4, none⟩ = some (.slice da m.d.length dc)) := Lib.hid ⟨cell_of_heap HO2.out rfl, cell_of_heap HO2.out rfl⟩
  refine Lex.region [9] [10] (by kernel_rfl) (by kernel_rfl) ?_
  refine Lex.opens (fun w' => w'.cell? ⟨p, 8, none⟩ = some (.pointer (some ⟨q, 0, none⟩)) ∧ w'.cell? ⟨p, 4, none⟩ = some (.slice da m.d.length dc)) (S2.out) ?_
  repeat (first
    | (refine Lex.skips (by rfl) ?_; (try simp only [Act.put, List.setIfInBounds_toArray, List.set_cons_zero, List.set_cons_succ]))
    | (refine Lex.quiet (v := ?_) (by rfl) (by rfl) ?_ ?_; rotate_left; (focus (intro w' hS'; go_simp; try rfl)); (try simp only [Act.put, List.setIfInBounds_toArray, List.set_cons_zero, List.set_cons_succ])))
  refine Lex.loud (by rfl) (by rfl) ?_
  intro K' hK'
  go_simp
  refine (lay_ok _ 16 m.d.length _ m.d HM2.out (by decide) (by omega) n1 HINB.out rfl HDLT.out (HPM.out _ R2.out).1.data).mono ?_
  rintro e w3 ⟨rfl, hm3, r3⟩
  have hob3 := r3.heap HO2.out (by have := HBG.out; have := HPB.out; simp; omega)
  have HO3 := Lib.hid hob3
  have HM3 := Lib.hid hm3
  have R3 := Lib.hid (R2.out.trans' r3 (fun k hk _ => by simp at hk; have := HBG.out; omega))
  have S3 : Hid (w3.cell? ⟨p, 8, none⟩ = some (.pointer (some ⟨q, 0, none⟩)) ∧ w3.cell? ⟨p, 4, none⟩ = some (.slice da m.d.length dc)) := Lib.hid ⟨cell_of_heap hob3 rfl, cell_of_heap hob3 rfl⟩
  clear hm3 hob3 r3
  refine hK' _ _ (S3.out) ?_
  clear hK'
  try simp only [Act.put, List.setIfInBounds_toArray, List.set_cons_zero, List.set_cons_succ]
  refine Lex.done ?_
  refine Lex.ends ?_
  clear S2 S3 HO2 HM2
  go_upto_region 10 with (fail)
  have HO3b : Hid (w3.drew.heap[p]? = some (.cells #[h0, h1, h2, h3, .slice da m.d.length dc, .slice fa m.f.length fc, iv, .int .i64 n, .pointer (some ⟨q, 0, none⟩), .pointer none, .int .i64 fuel, .int .u64 0, .int .u64 0, .int .i64 0, .int .i64 0, .slice none 0 0, .int .i64 0, .int .i64 0] 94 (0, 0))) := Lib.hid ((Fr.refl no w3).drew.heap HO3.out (by simp))
  have R3b := Lib.hid (R3.out.trans (Fr.refl no w3).drew.to)
  have HM3b := Lib.hid (HM3.out.fr (Fr.refl no w3).drew)
  have S3b : Hid (w3.drew.cell? ⟨p, 6, none⟩ = some iv ∧ w3.drew.cell? ⟨p, 7, none⟩ = some (.int .i64 n)) := Lib.hid ⟨cell_of_heap HO3b.out rfl, cell_of_heap HO3b.out rfl⟩
  refine Lex.region [7, 16, 19, 22] [23] (by kernel_rfl) (by kernel_rfl) ?_
  refine Lex.opens (fun w' => w'.cell? ⟨p, 6, none⟩ = some iv ∧ w'.cell? ⟨p, 7, none⟩ = some (.int .i64 n)) (S3b.out) ?_
  repeat (first
    | (refine Lex.skips (by rfl) ?_; (try simp only [Act.put, List.setIfInBounds_toArray, List.set_cons_zero, List.set_cons_succ]))
    | (refine Lex.quiet (v := ?_) (by rfl) (by rfl) ?_ ?_; rotate_left; (focus (intro w' hS'; go_simp; try rfl)); (try simp only [Act.put, List.setIfInBounds_toArray, List.set_cons_zero, List.set_cons_succ])))
  refine Lex.loud (by rfl) (by rfl) ?_
  intro K' hK'
  go_simp
  refine (new_ok _ iv inp (HPM.out _ R3b.out).2 HIB.out (by have := HIL.out; omega)).mono ?_
  rintro e w4 ⟨t, tv, rfl, ht4, r4⟩
  have hob4 := r4.heap HO3b.out (by simp)
  have HO4 := Lib.hid hob4
  have d9 : w4.cell? ⟨p, 9, none⟩ = some (.pointer none) := cell_of_heap hob4 rfl
  have d11 : w4.cell? ⟨p, 11, none⟩ = some (.int .u64 0) := cell_of_heap hob4 rfl
  have d12 : w4.cell? ⟨p, 12, none⟩ = some (.int .u64 0) := cell_of_heap hob4 rfl
  have f9 : w4.frozen? ⟨p, 9, none⟩ = false := frozen_of_heap hob4
  have f11 : w4.frozen? ⟨p, 11, none⟩ = false := frozen_of_heap hob4
  have f12 : w4.frozen? ⟨p, 12, none⟩ = false := frozen_of_heap hob4
  have e6 : w4.cell? ⟨p, 6, none⟩ = some iv := cell_of_heap hob4 rfl
  have e7 : w4.cell? ⟨p, 7, none⟩ = some (.int .i64 n) := cell_of_heap hob4 rfl
  have HB3 : Hid (w.heap.size ≤ w3.drew.heap.size) := Lib.hid R3b.out.size
  have HT4 : Hid (TapeAt w4 0 t inp 0 [] tv (.slice none 0 0) ∧ w.heap.size ≤ t ∧ ∀ k, tv.ownBlock = some k → w.heap.size ≤ k) := Lib.hid ⟨⟨ht4.obj, owns_base ht4.inn (fun _ _ => Nat.zero_le _), owns_base ht4.out (fun _ _ => Nat.zero_le _), ht4.le, Nat.zero_le _, ht4.small⟩, Nat.le_trans HB3.out ht4.bt, fun k hk => Nat.le_trans HB3.out (ht4.inn.lt k hk).1⟩
  have R4 := Lib.hid (R3b.out.trans r4.to)
  have HM4 := Lib.hid (HM3b.out.fr r4)
  have HGTV : Hid (¬ tv.ownBlock = some g) := Lib.hid (fun e => by
    have h1 := (ht4.inn.lt g e).1
    obtain ⟨cur, hg, -⟩ := HM3b.out.block
    have h2 := (Array.getElem?_eq_some_iff.1 hg).1
    omega)
  clear ht4 hob4 r4
  refine hK' _ _ (⟨e6, e7⟩) ?_
  clear hK'
  try simp only [Act.put, List.setIfInBounds_toArray, List.set_cons_zero, List.set_cons_succ]
  repeat (first
    | (refine Lex.skips (by rfl) ?_; (try simp only [Act.put, List.setIfInBounds_toArray, List.set_cons_zero, List.set_cons_succ]))
    | (refine Lex.quiet (v := ?_) (by rfl) (by rfl) ?_ ?_; rotate_left; (focus (intro w' hS'; go_simp; try rfl)); (try simp only [Act.put, List.setIfInBounds_toArray, List.set_cons_zero, List.set_cons_succ])))
  refine Lex.loud (by rfl) (by rfl) ?_
  intro K' hK'
  go_simp
  refine hK' _ _ ((by constructor <;> go_simp)) ?_
  clear hK'
  try simp only [Act.put, List.setIfInBounds_toArray, List.set_cons_zero, List.set_cons_succ]
  repeat (first
    | (refine Lex.skips (by rfl) ?_; (try simp only [Act.put, List.setIfInBounds_toArray, List.set_cons_zero, List.set_cons_succ]))
    | (refine Lex.quiet (v := ?_) (by rfl) (by rfl) ?_ ?_; rotate_left; (focus (intro w' hS'; go_simp; try rfl)); (try simp only [Act.put, List.setIfInBounds_toArray, List.set_cons_zero, List.set_cons_succ])))
  refine Lex.loud (by rfl) (by rfl) ?_
  intro K' hK'
  go_simp
  refine hK' _ _ ((by constructor <;> go_simp)) ?_
  clear hK'
  try simp only [Act.put, List.setIfInBounds_toArray, List.set_cons_zero, List.set_cons_succ]
  repeat (first
    | (refine Lex.skips (by rfl) ?_; (try simp only [Act.put, List.setIfInBounds_toArray, List.set_cons_zero, List.set_cons_succ]))
    | (refine Lex.quiet (v := ?_) (by rfl) (by rfl) ?_ ?_; rotate_left; (focus (intro w' hS'; go_simp; try rfl)); (try simp only [Act.put, List.setIfInBounds_toArray, List.set_cons_zero, List.set_cons_succ])))
  refine Lex.loud (by rfl) (by rfl) ?_
  intro K' hK'
  go_simp
  refine hK' _ _ ((by constructor <;> go_simp)) ?_
  clear hK'
  try simp only [Act.put, List.setIfInBounds_toArray, List.set_cons_zero, List.set_cons_succ]
  refine Lex.done ?_
  refine Lex.ends ?_
  have r5 := (((Fr.refl (only [p]) w4).setCell ⟨p, 9, none⟩ (.pointer (some ⟨t, 0, none⟩)) (.inl (by simp))).setCell ⟨p, 11, none⟩ (.int .u64 (flr m)) (.inl (by simp))).setCell ⟨p, 12, none⟩ (.int .u64 n) (.inl (by simp))
  have HO5 : Hid ((((w4.setCell ⟨p, 9, none⟩ (.pointer (some ⟨t, 0, none⟩))).setCell ⟨p, 11, none⟩ (.int .u64 (flr m))).setCell ⟨p, 12, none⟩ (.int .u64 n)).heap[p]? = some (.cells #[h0, h1, h2, h3, .slice da m.d.length dc, .slice fa m.f.length fc, iv, .int .i64 n, .pointer (some ⟨q, 0, none⟩), .pointer (some ⟨t, 0, none⟩), .int .i64 fuel, .int .u64 (flr m), .int .u64 n, .int .i64 0, .int .i64 0, .slice none 0 0, .int .i64 0, .int .i64 0] 94 (0, 0))) := Lib.hid (heap_setCell (o := 12) (heap_setCell (o := 11) (heap_setCell (o := 9) HO4.out)))
  have HM5 := Lib.hid (HM4.out.frx r5 (by have := HBQ.out; have := HPB.out; simp; omega) (by have := HBG.out; have := HPB.out; simp; omega))
  have HT5 := Lib.hid (HT4.out.1.frx r5 (by have := HT4.out.2.1; have := HPB.out; simp; omega) (fun k hk => by have := HT4.out.2.2 k hk; have := HPB.out; simp; omega) (fun k hk => by cases hk))
  have R5 := Lib.hid (R4.out.trans r5)
  clear r5 d9 d11 d12 f9 f11 f12 e6 e7 S3b HO3 HO3b HM3 HM3b R3 R3b
  generalize ((w4.setCell ⟨p, 9, none⟩ (.pointer (some ⟨t, 0, none⟩))).setCell ⟨p, 11, none⟩ (.int .u64 (flr m))).setCell ⟨p, 12, none⟩ (.int .u64 n) = w5 at *
  obtain ⟨ua, un, uc, hu⟩ := FU.out _ R5.out
  have HU := Lib.hid hu
  have c5 : w5.cell? ⟨p, 5, none⟩ = some (.slice fa m.f.length fc) := cell_of_heap HO5.out rfl
  rw [HFA.out] at c5
  clear hu
  go_upto_region 12 with (first | (refine wpList_load_in (o := ⟨some 84, .load 41 (.tmp 83), _, _, _, _⟩) rfl 41 (.tmp 83) rfl fb fo rfl _ _ HU.out Tryz.underlying41 rfl (by rw [infoFn4b]; rfl) ?_))
  have r6 := (Fr.refl no w5).alloc (.cells #[.int .i64 pn, .int .i64 rn, .int .i64 an, .slice ua un uc] 41)
  have hn6 := heap_new w5 (.cells #[.int .i64 pn, .int .i64 rn, .int .i64 an, .slice ua un uc] 41)
  generalize w5.alloc (.cells #[.int .i64 pn, .int .i64 rn, .int .i64 an, .slice ua un uc] 41) = w6 at *
  have r7 := r6.drew
  have HO7 := Lib.hid (r7.heap HO5.out (by simp))
  have HF7 := Lib.hid ((Fr.refl no w6).drew.heap hn6 (by simp))
  have HM7 := Lib.hid (HM5.out.fr r7)
  have HT7 := Lib.hid (HT5.out.fr r7)
  have R7 := Lib.hid (R5.out.trans r7.to)
  have S7 : Hid (w6.drew.cell? ⟨p, 12, none⟩ = some (.int .u64 n) ∧ w6.drew.cell? ⟨w5.heap.size, 1, none⟩ = some (.int .i64 rn) ∧ w6.drew.cell? ⟨w5.heap.size, 2, none⟩ = some (.int .i64 an)) := Lib.hid ⟨cell_of_heap HO7.out rfl, cell_of_heap HF7.out rfl, cell_of_heap HF7.out rfl⟩
  clear r6 r7 hn6 c5 HM5 HT5 HO5
  refine Lex.region [9] [14, 1] (by kernel_rfl) (by kernel_rfl) ?_
  refine Lex.opens (fun w' => w'.cell? ⟨p, 12, none⟩ = some (.int .u64 n) ∧ w'.cell? ⟨w5.heap.size, 1, none⟩ = some (.int .i64 rn) ∧ w'.cell? ⟨w5.heap.size, 2, none⟩ = some (.int .i64 an)) (S7.out) ?_
  repeat (first
    | (refine Lex.skips (by rfl) ?_; (try simp only [Act.put, List.setIfInBounds_toArray, List.set_cons_zero, List.set_cons_succ]))
    | (refine Lex.quiet (v := ?_) (by rfl) (by rfl) ?_ ?_; rotate_left; (focus (intro w' hS'; go_simp; try rfl)); (try simp only [Act.put, List.setIfInBounds_toArray, List.set_cons_zero, List.set_cons_succ])))
  refine Lex.loud (by rfl) (by rfl) ?_
  intro K' hK'
  go_simp
  by_cases hA : n < flr m + r16 (8 * rn + an)
  · have HFIT : Hid (fits0 m n = false) := Lib.hid (by unfold fits0; rw [HFS.out]; exact decide_eq_false (by omega))
    refine (push_full _ n (flr m) rn an hrn64 han96 HN16.out n1 HF16.out (by have := HFL.out; omega) hA).mono ?_
    rintro e w' ⟨rfl, rfl⟩
    clear hA
    refine hK' _ _ (S7.out) ?_
    clear hK'
    try simp only [Act.put, List.setIfInBounds_toArray, List.set_cons_zero, List.set_cons_succ]
    repeat (first
      | (refine Lex.skips (by rfl) ?_; (try simp only [Act.put, List.setIfInBounds_toArray, List.set_cons_zero, List.set_cons_succ]))
      | (refine Lex.quiet (v := ?_) (by rfl) (by rfl) ?_ ?_; rotate_left; (focus (intro w' hS'; go_simp; try rfl)); (try simp only [Act.put, List.setIfInBounds_toArray, List.set_cons_zero, List.set_cons_succ])))
    refine Lex.done ?_
    refine Lex.opens (fun w' => True) (trivial) ?_
    repeat (first
      | (refine Lex.skips (by rfl) ?_; (try simp only [Act.put, List.setIfInBounds_toArray, List.set_cons_zero, List.set_cons_succ]))
      | (refine Lex.quiet (v := ?_) (by rfl) (by rfl) ?_ ?_; rotate_left; (focus (intro w' hS'; go_simp; try rfl)); (try simp only [Act.put, List.setIfInBounds_toArray, List.set_cons_zero, List.set_cons_succ])))
    refine Lex.done ?_
    refine Lex.ends ?_
    generalize w6.drew = w7 at *
    have HTH := Lib.hid (there_of (o := 16) (n := 2) HO7.out (show 16 + 2 ≤ 18 from by decide))
    have HO8 := Lib.hid (heap_setCells2 (o := 16) (x := .int .i64 3) (y := .int .i64 0) HO7.out)
    have r8 : Fr (only [p]) w7 (w7.setCells p 16 [.int .i64 3, .int .i64 0]) := fr_setCells2
    have HM8 := Lib.hid (HM7.out.frx r8 (by have := HBQ.out; have := HPB.out; simp; omega) (by have := HBG.out; have := HPB.out; simp; omega))
    have HT8 := Lib.hid (HT7.out.frx r8 (by have := HT4.out.2.1; have := HPB.out; simp; omega) (fun k hk => by have := HT4.out.2.2 k hk; have := HPB.out; simp; omega) (fun k hk => by cases hk))
    have R8 := Lib.hid (R7.out.trans r8)
    clear r8
    go_upto_region 14 with (fail)
    go_wp2_with ((refine wpList_store_mid (op := ⟨none, .store 43 (.tmp 103) (.tmp 101), _, _, _, _⟩) rfl 43 (.tmp 103) (.tmp 101) rfl p 16 #[.int .i64 3, .int .i64 0] rfl rfl HTH.out (by rw [Tryz.infoEnd]; rfl) (by simp [Value.oneCell']) ?_; rw [act_put_none]))
    go_ret
    refine ⟨rfl, ⟨da, dc, fa, fc, iv, q, g, cp, t, tv, .slice none 0 0, .slice none 0 0⟩, ?_⟩
    rw [show newS m n inp fuel = { sp0 m n inp fuel with e := (3, 0) } from by unfold newS; rw [HFIT.out]; rfl]
    exact ⟨rfl, rfl, rfl, rfl, rfl, rfl, rfl, by
      have h8 := HO8.out
      unfold spCellsH
      show _ = some (Obj.cells #[h0, h1, h2, h3, .slice da m.d.length dc, .slice fa m.f.length fc, iv, .int .i64 ((sp0 m n inp fuel).b.length : Nat), .pointer (some ⟨q, 0, none⟩), .pointer (some ⟨t, 0, none⟩), .int .i64 fuel, .int .u64 (flr m), .int .u64 n, .int .i64 0, .int .i64 0, .slice none 0 0, .int .i64 3, .int .i64 0] _ _)
      rw [HBL0.out]
      exact h8, by show MemAt _ q g (sp0 m n inp fuel).b.length cp _; rw [HBL0.out]; exact HM8.out, HT8.out, HBQ.out, HBG.out, HT4.out.2.1, HT4.out.2.2, HGTV.out, R8.out⟩
  · have HFIT : Hid (fits0 m n = true) := Lib.hid (by unfold fits0; rw [HFS.out]; exact decide_eq_true (by omega))
    refine (push_room _ n (flr m) rn an hrn64 han96 HN16.out n1 HF16.out (by have := HFL.out; omega) hA).mono ?_
    rintro e w' ⟨rfl, rfl⟩
    clear hA
    refine hK' _ _ (S7.out) ?_
    clear hK'
    try simp only [Act.put, List.setIfInBounds_toArray, List.set_cons_zero, List.set_cons_succ]
    repeat (first
      | (refine Lex.skips (by rfl) ?_; (try simp only [Act.put, List.setIfInBounds_toArray, List.set_cons_zero, List.set_cons_succ]))
      | (refine Lex.quiet (v := ?_) (by rfl) (by rfl) ?_ ?_; rotate_left; (focus (intro w' hS'; go_simp; try rfl)); (try simp only [Act.put, List.setIfInBounds_toArray, List.set_cons_zero, List.set_cons_succ])))
    refine Lex.done ?_
    refine Lex.opens (fun w' => True) (trivial) ?_
    repeat (first
      | (refine Lex.skips (by rfl) ?_; (try simp only [Act.put, List.setIfInBounds_toArray, List.set_cons_zero, List.set_cons_succ]))
      | (refine Lex.quiet (v := ?_) (by rfl) (by rfl) ?_ ?_; rotate_left; (focus (intro w' hS'; go_simp; try rfl)); (try simp only [Act.put, List.setIfInBounds_toArray, List.set_cons_zero, List.set_cons_succ])))
    refine Lex.done ?_
    refine Lex.ends ?_
    generalize w6.drew = w7 at *
    have d12 : w7.cell? ⟨p, 12, none⟩ = some (.int .u64 n) := cell_of_heap HO7.out rfl
    have f12 : w7.frozen? ⟨p, 12, none⟩ = false := frozen_of_heap HO7.out
    have HNE : Hid (w5.heap.size ≠ p) := Lib.hid (by have := R5.out.size; have := HPB.out; omega)
    have hne := HNE.out
    have p0 : w7.cell? ⟨w5.heap.size, 0, none⟩ = some (.int .i64 pn) := cell_of_heap HF7.out rfl
    go_upto_region 17 with (fail)
    have r8 := (Fr.refl (only [p]) w7).setCell ⟨p, 12, none⟩ (.int .u64 (n - r16 (8 * rn + an) : Nat)) (.inl (by simp))
    have HO8 : Hid ((w7.setCell ⟨p, 12, none⟩ (.int .u64 (n - r16 (8 * rn + an) : Nat))).heap[p]? = some (.cells #[h0, h1, h2, h3, .slice da m.d.length dc, .slice fa m.f.length fc, iv, .int .i64 n, .pointer (some ⟨q, 0, none⟩), .pointer (some ⟨t, 0, none⟩), .int .i64 fuel, .int .u64 (flr m), .int .u64 (n - r16 (8 * rn + an) : Nat), .int .i64 0, .int .i64 0, .slice none 0 0, .int .i64 0, .int .i64 0] 94 (0, 0))) := Lib.hid (heap_setCell (o := 12) HO7.out)
    have HF8 := Lib.hid (r8.heap HF7.out (by simp; exact hne))
    have HM8 := Lib.hid (HM7.out.frx r8 (by have := HBQ.out; have := HPB.out; simp; omega) (by have := HBG.out; have := HPB.out; simp; omega))
    have HT8 := Lib.hid (HT7.out.frx r8 (by have := HT4.out.2.1; have := HPB.out; simp; omega) (fun k hk => by have := HT4.out.2.2 k hk; have := HPB.out; simp; omega) (fun k hk => by cases hk))
    have R8 := Lib.hid (R7.out.trans r8)
    have HGT : Hid (g ≠ t ∧ ¬ tv.ownBlock = some g) := Lib.hid (by
      obtain ⟨cur, hg, -⟩ := HM8.out.block
      have h2 := HT8.out.obj
      exact ⟨block_ne hg h2 (by decide), HGTV.out⟩)
    clear r8 d12 f12 p0
    generalize w7.setCell ⟨p, 12, none⟩ (.int .u64 (n - r16 (8 * rn + an) : Nat)) = w8 at *
    have p0 : w8.cell? ⟨w5.heap.size, 0, none⟩ = some (.int .i64 pn) := cell_of_heap HF8.out rfl
    have HRW : Hid (RawAt w8 p #[h0, h1, h2, h3, .slice da m.d.length dc, .slice fa m.f.length fc, iv, .int .i64 n, .pointer (some ⟨q, 0, none⟩), .pointer (some ⟨t, 0, none⟩), .int .i64 fuel, .int .u64 (flr m), .int .u64 (n - r16 (8 * rn + an) : Nat), .int .i64 0, .int .i64 0, .slice none 0 0, .int .i64 0, .int .i64 0] da dc fa fc q g cp ((sp1 m n inp fuel).layS 0 (List.replicate 0 0))) := Lib.hid ⟨HO8.out, rfl, rfl, by show some (Value.int .u64 ((n - r16 (8 * rn + an) : Nat) : Int)) = some (Value.int .u64 ((n - fsz (fnOf m 0) : Nat) : Int)); rw [HFS.out], rfl, rfl, by show MemAt _ q g (sp0 m n inp fuel).b.length cp _; rw [HBL0.out]; exact HM8.out, (HPM.out _ R8.out).1, HARG.out.one HFIT.out, rfl⟩
    have HBL8 : Hid (((sp1 m n inp fuel).layS 0 (List.replicate 0 0)).b.length = n) := Lib.hid HBL0.out
    have HPMG : Hid (∀ w', Fr (only [g]) w8 w' → ModIn w' m da dc fa) := Lib.hid (fun w' r => (HPM.out _ (R8.out.trans' r (fun k hk _ => by simp at hk; have := HBG.out; omega))).1)
    go_wp2_with fail
    go_loopw [110] (fun y wr => ∃ j : Nat, j ≤ pn ∧ y = .int .i64 j ∧ Hid (RawAt wr p #[h0, h1, h2, h3, .slice da m.d.length dc, .slice fa m.f.length fc, iv, .int .i64 n, .pointer (some ⟨q, 0, none⟩), .pointer (some ⟨t, 0, none⟩), .int .i64 fuel, .int .u64 (flr m), .int .u64 (n - r16 (8 * rn + an) : Nat), .int .i64 0, .int .i64 0, .slice none 0 0, .int .i64 0, .int .i64 0] da dc fa fc q g cp ((sp1 m n inp fuel).layS 0 (List.replicate j 0))) ∧ Hid (((sp1 m n inp fuel).layS 0 (List.replicate j 0)).b.length = n) ∧ Hid (Fr (only [g]) w8 wr)) (fun y _ => (pn - intOf y).toNat)
    case atStart => exact ⟨0, by omega, by simp, HRW, HBL8, Lib.hid (Fr.refl _ _)⟩
    case round =>
      obtain ⟨j, hj, rfl, hraw, hbl, hfr⟩ := hrel
      by_cases hjl : j < pn
      · have hlt : (j : Int) < pn := by omega
        have hrg := HARG.out.rg (k := j) (by rw [HPN.out]; exact hjl) (List.replicate j 0)
        have HST := Lib.hid (RawAt.set_ok wr j 0 (by decide) hrg.1 hraw.out (by have := HBG.out; have := HPB.out; omega) (fun w' r => by
          have sm := layS_same (List.replicate j 0) (sp1 m n inp fuel) 0
          rw [sm.1]
          exact HPMG.out _ (hfr.out.trans r)))
        have HBN : Hid ((((sp1 m n inp fuel).layS 0 (List.replicate j 0)).putR j 0).b.length = n) := Lib.hid (by
          have := hraw.out.ok.inR hrg.2 hrg.1
          show (wr8 _ _ _).length = n
          rw [wr8_len 0 (by simp at this ⊢; omega)]
          exact hbl.out)
        rw [← lay_zero] at HST HBN
        clear hrg
        go_wp2_with fail
        refine HST.out.mono ?_
        rintro e w9 ⟨rfl, hr9, r9⟩
        have H9 := Lib.hid hr9
        have R9 := Lib.hid (hfr.out.trans r9)
        clear hr9 r9
        go_wp2_with fail
        go_roundw
        case rel => exact ⟨j + 1, by omega, by go_num, H9, HBN, R9⟩
        case measure => first | (simp [intOf]; done) | (simp [intOf]; omega)
      · obtain rfl : j = pn := by omega
        have HMD : Hid (Made w wr p h0 h1 h2 h3 da dc fa fc iv (newS m n inp fuel) ⟨da, dc, fa, fc, iv, q, g, cp, t, tv, .slice none 0 0, .slice none 0 0⟩) := Lib.hid (by
          rw [show newS m n inp fuel = (sp1 m n inp fuel).layS 0 (List.replicate j 0) from by unfold newS; rw [HFIT.out, if_pos rfl, HPN.out]]
          have sm := layS_same (List.replicate j 0) (sp1 m n inp fuel) 0
          have hra := hraw.out
          have hb := hbl.out
          generalize (sp1 m n inp fuel).layS 0 (List.replicate j 0) = sj at *
          refine ⟨rfl, rfl, rfl, rfl, rfl, rfl, rfl, ?_, by rw [hb]; have := hra.mem; rw [hb] at this; exact this, ?_, HBQ.out, HBG.out, HT4.out.2.1, HT4.out.2.2, HGTV.out, R8.out.trans' hfr.out (fun k hk _ => by simp at hk; have := HBG.out; omega)⟩
          · have h9 := hra.obj
            unfold spCellsH
            rw [hb, sm.1, sm.2.2.2.2.1, sm.2.2.2.2.2.1, sm.2.2.2.2.2.2.1, sm.2.2.2.2.2.2.2.1, sm.2.2.2.2.2.2.2.2.2]
            show _ = some (Obj.cells #[h0, h1, h2, h3, .slice da m.d.length dc, .slice fa m.f.length fc, iv, .int .i64 n, .pointer (some ⟨q, 0, none⟩), .pointer (some ⟨t, 0, none⟩), .int .i64 fuel, .int .u64 (flr m), .int .u64 (n - fsz (fnOf m 0) : Nat), .int .i64 0, .int .i64 0, .slice none 0 0, .int .i64 0, .int .i64 0] _ _)
            rw [HFS.out]
            exact h9
          · rw [sm.2.1, sm.2.2.1, sm.2.2.2.1]
            exact HT8.out.frx hfr.out (by simp; exact fun e => HGT.out.1 e.symm) (fun k hk e => by simp at e; subst e; exact HGT.out.2 hk) (fun k hk => by cases hk))
        clear hraw hbl hfr
        go_wp2_with fail
        go_ret
        exact ⟨rfl, _, HMD.out⟩
end

end Go.Proofs.YtihnkijeefkefaaGreat

/- VerifyMore (law12). -/
import Derived.Test.YtofahdjnejodjaaGreatV8
import Derived.Test.YtofahdjnejodjaaGreatV9
set_option linter.unusedSimpArgs false
set_option linter.unusedVariables false
set_option linter.unusedSectionVars false
set_option linter.unnecessarySimpa false
namespace Go.Proofs.YtofahdjnejodjaaGreat
open Go.RowKit Go.Flow Go.Sure

attribute [local go_sem] Program.isFuncB Program.isSliceB

variable {w w' w'' w0 : World}

/-- a module in a box, data and functions the call's own -/
structure MX (w wr : World) (base b0 : Nat) (xa oa : Option Addr) (xc oc : Nat) (d : List Nat) (l : List FxV) : Prop where
  obj : wr.heap[b0]? = some (.cells #[.slice xa d.length xc, .slice oa l.length oc] 38 (0, 0))
  data : wr.ownsRow base 5 1 (.slice xa d.length xc) d.length (u8s d)
  fns : FnsOwn wr base (.slice oa l.length oc) l
  fr : Fr no w wr
  lo : w.heap.size ≤ base ∧ w.heap.size ≤ b0
theorem MX.to {wr wr' : World} {base b0 : Nat} {xa oa : Option Addr} {xc oc : Nat} {d : List Nat} {l : List FxV} (h : MX w wr base b0 xa oa xc oc d l) (r : Fr no wr wr') : MX w wr' base b0 xa oa xc oc d l :=
  ⟨r.heap h.obj (by simp), owns_fr h.data r (by simp), h.fns.fn r, h.fr.trans r, h.lo⟩
theorem row_odd {base n z : Nat} {e : TypeId} {v : Value} {xs : List Value} {ts : List TypeId} (h : w.ownsRow base e z v n xs) (he : e ∉ ts) : Odd w (fun k => v.ownBlock = some k) ts := fun k hk => by
  rcases h.2 with ⟨rfl, -⟩ | ⟨g, cap, cur, rfl, -, hg, -⟩
  · cases hk
  · cases hk
    exact .inr ⟨_, _, hg, he⟩
theorem MX.appData {wr : World} {base b0 : Nat} {xa oa ga : Option Addr} {xc oc gc : Nat} {d e : List Nat} {l : List FxV} (h : MX w wr base b0 xa oa xc oc d l) (hg : wr.grownBy w' (Value.slice xa d.length xc).ownBlock)
    (ho : w'.ownsRow base 5 1 (.slice ga (d.length + e.length) gc) (d.length + e.length) (u8s d ++ u8s e)) : MX w (w'.setCell ⟨b0, 0, none⟩ (.slice ga (d.length + e.length) gc)) base b0 ga oa gc oc (d ++ e) l := by
  have q : Fr (fun k => (Value.slice xa d.length xc).ownBlock = some k) wr w' := (Fr.refl _ wr).grown hg (fun k hk => .inl hk)
  have o1 := q.heap h.obj (row_block_ne h.data h.obj (by decide))
  have f1 := h.fns.odd q (row_odd h.data (by decide))
  have rs : Fr (only [b0]) w' (w'.setCell ⟨b0, 0, none⟩ (.slice ga (d.length + e.length) gc)) := (Fr.refl _ w').setCell _ _ (.inl (by simp))
  refine ⟨by rw [heap_setCell o1, List.length_append]; rfl, ?_, f1.odd rs (fun k hk => .inr (by simp at hk; subst hk; exact ⟨_, _, o1, by decide⟩)), (h.fr.trans' q (fun k hk _ => by have := (h.data.lt k hk).1; have := h.lo; omega)).trans' rs (fun k hk _ => by have := h.lo; simp at hk; omega), h.lo⟩
  rw [List.length_append, show u8s (d ++ e) = u8s d ++ u8s e from by simp [u8s]]
  exact owns_fr ho rs (fun k hk e => by simp at e; subst e; exact row_block_ne ho o1 (by decide) hk)
theorem MX.appFn {wr : World} {base b0 : Nat} {xa oa ga : Option Addr} {xc oc gc : Nat} {d : List Nat} {l : List FxV} {p : FxV} (h : MX w wr base b0 xa oa xc oc d l) (hp : p ∈ l) (hg : wr.grownBy w' (Value.slice oa l.length oc).ownBlock)
    (ho : w'.ownsRow base 50 4 (.slice ga (l.length + 1) gc) (l.length + 1) (fCells l ++ p.1.cells p.val)) : MX w (w'.setCell ⟨b0, 1, none⟩ (.slice ga (l.length + 1) gc)) base b0 xa ga xc gc d (l ++ [p]) := by
  have q : Fr (fun k => (Value.slice oa l.length oc).ownBlock = some k) wr w' := (Fr.refl _ wr).grown hg (fun k hk => .inl hk)
  have o1 := q.heap h.obj (row_block_ne h.fns.row h.obj (by decide))
  have d1 := owns_odd h.data q (ts := [5]) (row_odd h.fns.row (by decide)) (by simp)
  have f1 := h.fns.app (h.fns.code p hp) hg ho
  have rs : Fr (only [b0]) w' (w'.setCell ⟨b0, 1, none⟩ (.slice ga (l.length + 1) gc)) := (Fr.refl _ w').setCell _ _ (.inl (by simp))
  refine ⟨by rw [heap_setCell o1, List.length_append]; rfl, owns_fr d1 rs (fun k hk e => by simp at e; subst e; exact row_block_ne d1 o1 (by decide) hk), ?_, (h.fr.trans' q (fun k hk _ => by have := (h.fns.row.lt k hk).1; have := h.lo; omega)).trans' rs (fun k hk _ => by have := h.lo; simp at hk; omega), h.lo⟩
  rw [List.length_append]
  exact f1.odd rs (fun k hk => .inr (by simp at hk; subst hk; exact ⟨_, _, o1, by decide⟩))
theorem MX.mod {wr : World} {base b0 : Nat} {xa oa : Option Addr} {xc oc : Nat} {d : List Nat} {l : List FxV} (h : MX w wr base b0 xa oa xc oc d l) : ModIn wr ⟨d, l.map Prod.fst⟩ xa xc oa := by
  obtain ⟨a, c, h4, h5⟩ := h.fns.read
  injection h4 with e1 e2 e3
  subst e1
  exact ⟨owns_reads h.data, h5⟩

theorem FnsOwn.at {base c n t : Nat} {a : Option Addr} {l : List FxV} (h : FnsOwn w base (.slice a n c) l) (ht : t < l.length) : ∃ g o, a = some ⟨g, o, none⟩ ∧ At w g (o + t * 4) (l[t].1.cells l[t].val) := by
  rcases h.row.2 with ⟨hv, h0⟩ | ⟨g, cap, cur, hv, hb, hg, h1, h2, h3, h4⟩
  · omega
  · cases hv
    refine ⟨g, 0, rfl, fun j v hj => ?_⟩
    have hj4 : j < 4 := (List.getElem?_eq_some_iff.1 hj).1
    have := h.row.cells rfl (t * 4 + j) v (by rw [fCells_get l t j ht hj4]; exact hj)
    rw [Addr.add_lit] at this
    rw [Nat.zero_add]
    rwa [Nat.zero_add] at this

set_option maxRecDepth 100000 in
set_option maxHeartbeats 4000000 in
theorem more12_ok (w : World) (m : Mx) (da fa : Option Addr) (dc fc : Nat) (hm : ModIn w m da dc fa) (hr : m.Raw) (bv : Value) (bs : List Nat) (hb : Reads w bv 1 bs.length (u8s bs)) (hlt : ∀ b ∈ bs, b < 256) (which : Int) :
    Calls Tryz.prog 7 #[.agg #[.slice da m.d.length dc, .slice fa m.f.length fc], bv, .int .i64 which] w fun e w' => e = .returned (.bool true) ∧ Fr no w w' := by
  obtain ⟨ba, bc, rfl⟩ := hb.shape
  have hbl := hb.len
  have HB := Lib.hid hb
  have HLT := Lib.hid hlt
  have HM := Lib.hid (heap_new w (.cells #[.slice da m.d.length dc, .slice fa m.f.length fc] 38))
  have r1 := (Fr.refl no w).alloc (.cells #[.slice da m.d.length dc, .slice fa m.f.length fc] 38)
  have R1 := Lib.hid r1
  have HMI := Lib.hid hm
  have HRW := Lib.hid hr
  clear hm hr r1 hb hlt
  go_enter Tryz.func7, Tryz.ntmps7
  go_wp2_with fail
  refine (awake12_ok _).mono ?_
  rintro e w2 ⟨rfl, r2⟩
  have R2 := Lib.hid (R1.out.trans r2)
  have HM2 := Lib.hid (r2.heap HM.out (by simp))
  have HLO := Lib.hid (longm_ok _ m da dc fa fc (HMI.out.fr R2.out) HRW.out)
  clear r2 HM R1
  obtain ⟨B0, hB0⟩ : ∃ b, b = w.heap.size := ⟨_, rfl⟩
  rw [← hB0] at HM2 ⊢
  clear hB0
  obtain ⟨m0, m1⟩ := cells2 HM2.out
  go_wp2_with fail
  refine HLO.out.mono ?_
  rintro e w3 ⟨q, rfl, hq, r3⟩
  have R3 := Lib.hid (R2.out.trans r3)
  have HM3 := Lib.hid (r3.heap HM2.out (by simp))
  have HQ := Lib.hid hq
  clear hq r3 HLO HM2 R2 m0 m1
  cases q
  case true =>
    go_wp2_with fail
    go_ret
    exact ⟨rfl, R3.out⟩
  have hd := (HQ.out rfl).1
  have hf := (HQ.out rfl).2.1
  have HS := Lib.hid (LongM.small HRW.out (HQ.out rfl))
  have HF := Lib.hid (few_small HRW.out (HQ.out rfl).2.2)
  clear HQ HRW
  by_cases hb100 : bs.length ≤ 100
  case neg =>
    have h1 : (100 : Int) < bs.length := by omega
    go_wp2_with fail
    go_ret
    exact ⟨rfl, R3.out⟩
  have h1 : ¬ (100 : Int) < bs.length := by omega
  obtain ⟨m0, m1⟩ := cells2 HM3.out
  have HCK := Lib.hid (vcheck_ok w3 m da fa dc fc (HMI.out.fr R3.out) HS.out HF.out)
  have HGD : Hid ((modFind m).2.2 = 0 → Good m) := Lib.hid modFind_good
  generalize (modFind m).2.2 = z at *
  go_wp2_with fail
  refine HCK.out.mono ?_
  rintro e w4 ⟨rfl, r4⟩
  have R4 := Lib.hid (R3.out.trans r4)
  have HM4 := Lib.hid (r4.heap HM3.out (by simp))
  clear r4 HCK HM3 R3 m0 m1
  by_cases hz : z = 0
  case neg =>
    have e1 : (z != 0) = true := by simpa using hz
    clear hz
    go_wp2_with fail
    go_ret
    exact ⟨rfl, R4.out⟩
  have HG := Lib.hid (HGD.out hz)
  have e1 : (z != 0) = false := by simpa using hz
  have hpos : 0 < m.f.length := by have := (modCk_iff.1 HG.out.ck).2.1; omega
  have hpos' : ((m.f.length : Int) == 0) = false := by rw [beq_eq_false_iff_ne]; omega
  clear hz HGD
  obtain ⟨m0, m1⟩ := cells2 HM4.out
  have HCP := Lib.hid (copymod_ok w4 m da dc fa fc (HMI.out.fr R4.out) HS.out)
  go_wp2_with fail
  refine HCP.out.mono ?_
  rintro e w5 ⟨a, c, a', c', rfl, hown, r5⟩
  obtain ⟨h1o, l, h2o, h3o⟩ := hown
  have hll : l.length = m.f.length := by rw [← h2o]; simp
  have q6 := (Fr.refl no w5).alloc (.cells #[.slice a m.d.length c, .slice a' m.f.length c'] 38)
  have HX6 : Hid (MX w (w5.alloc (.cells #[.slice a m.d.length c, .slice a' m.f.length c'] 38)) w4.heap.size w5.heap.size a a' c c' m.d l) := Lib.hid
    ⟨by rw [hll]; exact heap_new w5 _, owns_fr h1o q6 (by simp), by rw [hll]; exact h3o.fn q6, (R4.out.trans r5).trans q6, R4.out.size, (R4.out.trans r5).size⟩
  have HBS : Hid (w4.heap.size ≤ (w5.alloc (.cells #[.slice a m.d.length c, .slice a' m.f.length c'] 38)).heap.size) := Lib.hid (r5.trans q6).size
  have HLL := Lib.hid hll
  have HLF := Lib.hid h2o
  have hl6 : l.length ≤ 6 := by omega
  clear h1o h2o h3o r5 q6 HCP HM4 m0 m1 hll
  go_upto_region 7 with fail
  rw [← HLL.out] at hpos HX6 HBS ⊢
  generalize w5.alloc (.cells #[.slice a m.d.length c, .slice a' l.length c'] 38) = w6 at *
  generalize w5.heap.size = b0 at *
  generalize w4.heap.size = base at *
  obtain ⟨n0, n1⟩ := cells2 HX6.out.obj
  have HBM := Lib.hid (HB.out.fr HX6.out.fr (by simp))
  go_upto_region 8 with (at_builtin; (refine wpList_append_at rfl (.tmp 30) _ 35 rfl base 5 (.int .u8 0) 1 1 Tryz.underlying35 Tryz.infoU8 rfl (by decide) _ m.d.length _ rfl HX6.out.data bs.length _ HBM.out (u8s_one bs) (by unfold maxLen; omega) (by omega) HBS.out ?_); intro ga gc w7 ho hg hb7; have HX7 := Lib.hid (HX6.out.appData hg ho); have ob := ((Fr.refl (fun k => (Value.slice a m.d.length c).ownBlock = some k) _).grown hg (fun k hk => .inl hk)).heap HX6.out.obj (row_block_ne HX6.out.data HX6.out.obj (by decide)); have HSZ := Lib.hid hg.size; have x1 := cell_of_heap (o := 0) ob rfl; have y1 := frozen_of_heap (o := 0) ob; clear ho hg hb7 ob)
  have HBS8 : Hid (base ≤ (w7.setCell ⟨b0, 0, none⟩ (.slice ga (m.d.length + bs.length) gc)).heap.size) := Lib.hid (by have := HBS.out; have := HSZ.out; have := ((Fr.refl (only [b0]) w7).setCell ⟨b0, 0, none⟩ (.slice ga (m.d.length + bs.length) gc) (.inl (by simp))).size; omega)
  clear x1 y1 n0 n1 HX6 HBS HBM HSZ
  generalize w7.setCell ⟨b0, 0, none⟩ (.slice ga (m.d.length + bs.length) gc) = w8 at *
  have HPK := Lib.hid (fun w => pick_det w which l.length (by omega) (by omega))
  have ht := pkN_lt which l.length (by omega)
  generalize pkN which l.length = t at *
  have hd8 := (Fr.refl no w8).drew
  have HX9 := Lib.hid (HX7.out.to hd8)
  have HBS9 : Hid (base ≤ w8.drew.heap.size) := Lib.hid (by have := HBS8.out; have := hd8.size; omega)
  obtain ⟨g, o, rfl, hat⟩ := HX9.out.fns.at ht
  obtain ⟨p, hp⟩ : ∃ p, p = l[t] := ⟨_, rfl⟩
  have HPM : Hid (p ∈ l) := Lib.hid (by rw [hp]; exact List.getElem_mem ht)
  rw [← hp] at hat
  have AT := Lib.hid hat
  obtain ⟨⟨fp, fr', far, fcode⟩, ca, cc⟩ := p
  have ht' : (t : Int) < l.length := by omega
  have c1 : (w8.drew).cell? ⟨b0, 1, none⟩ = some (.slice (some ⟨g, o, none⟩) l.length c') := cell_of_heap HX9.out.obj rfl
  have HGF : Hid (Good ⟨m.d ++ bs, m.f ++ [⟨fp, fr', far, fcode⟩]⟩ ∧ (⟨fp, fr', far, fcode⟩ : Fx) ∈ m.f) := Lib.hid (by
    have hmem : (⟨fp, fr', far, fcode⟩ : Fx) ∈ m.f := by rw [← HLF.out]; exact List.mem_map.2 ⟨_, HPM.out, rfl⟩
    exact ⟨HG.out.more hd hf bs hb100 _ hmem, hmem⟩)
  clear hd8 hat HX7 HBS8 hp
  unfold Fx.cells FxV.val at AT
  dsimp only at AT
  refine Lex.region [8, 11, 12, 14] [12, 1, 2] (by kernel_rfl) (by kernel_rfl) ?_
  refine Lex.opens (fun w' => w'.cell? ⟨b0, 1, none⟩ = some (.slice (some ⟨g, o, none⟩) l.length c') ∧ At w' g (o + t * 4) [.int .i64 fp, .int .i64 fr', .int .i64 far, .slice ca fcode.length cc]) (⟨c1, AT.out⟩) ?_
  repeat (first
    | (refine Lex.skips (by rfl) ?_; (try simp only [Act.put, List.setIfInBounds_toArray, List.set_cons_zero, List.set_cons_succ]))
    | (refine Lex.quiet (v := ?_) (by rfl) (by rfl) ?_ ?_; rotate_left; (focus (intro w' hS'; go_simp; try rfl)); (try simp only [Act.put, List.setIfInBounds_toArray, List.set_cons_zero, List.set_cons_succ])))
  refine Lex.loud (by rfl) (by rfl) ?_
  intro K' hK'
  go_simp
  refine (HPK.out _).mono ?_
  rintro e w9 ⟨rfl, rfl⟩
  refine hK' _ _ (⟨c1, AT.out⟩) ?_
  clear hK'
  try simp only [Act.put, List.setIfInBounds_toArray, List.set_cons_zero, List.set_cons_succ]
  repeat (first
    | (refine Lex.skips (by rfl) ?_; (try simp only [Act.put, List.setIfInBounds_toArray, List.set_cons_zero, List.set_cons_succ]))
    | (refine Lex.into (by rfl) (by rfl) _ _ rfl _ _ rfl _ _ (fun w' h => h.2) Tryz.underlying50 rfl (by rw [Tryz.infoFunc]; rfl) ?_; (try simp only [Act.put, List.setIfInBounds_toArray, List.set_cons_zero, List.set_cons_succ]))
    | (refine Lex.quiet (v := ?_) (by rfl) (by rfl) ?_ ?_; rotate_left; (focus (intro w' hS'; go_simp; try rfl)); (try simp only [Act.put, List.setIfInBounds_toArray, List.set_cons_zero, List.set_cons_succ])))
  refine Lex.loud (by rfl) (by rfl) ?_
  intro K' hK'
  go_simp
  have q9 := (Fr.refl no w8.drew).alloc (.cells #[.int .i64 fp, .int .i64 fr', .int .i64 far, .slice ca fcode.length cc] 50)
  have HX10 := Lib.hid (HX9.out.to q9)
  have HR10 := Lib.hid (reads_four w8.drew (.int .i64 fp) (.int .i64 fr') (.int .i64 far) (.slice ca fcode.length cc) 50)
  have HBS10 : Hid (base ≤ (w8.drew.alloc (.cells #[.int .i64 fp, .int .i64 fr', .int .i64 far, .slice ca fcode.length cc] 50)).heap.size) := Lib.hid (by have := HBS9.out; have := q9.size; omega)
  have c10 := q9.cell c1 (by simp)
  have AT10 := Lib.hid (AT.out.fr q9)
  clear q9
  refine hK' _ _ (⟨c10, AT10.out⟩) ?_
  clear hK'
  try simp only [Act.put, List.setIfInBounds_toArray, List.set_cons_zero, List.set_cons_succ]
  refine Lex.done ?_
  refine Lex.opens (fun _ => True) (trivial) ?_
  refine Lex.loud (by rfl) (by rfl) ?_
  intro K' hK'
  refine wp_append_at (.tmp 35) (.tmp 45) 36 rfl base 50 (.agg zeroFn) 4 48 Tryz.underlying36 Tryz.infoFunc3 rfl (by decide) _ l.length _ rfl HX10.out.fns.row 1 _ HR10.out (four_one _ _ _ _ _ _ ()) (by unfold maxLen; omega) (by omega) HBS10.out ?_
  intro ga2 gc2 w12 ho hg hb
  have HX12 := Lib.hid (HX10.out.appFn HPM.out hg ho)
  have ob := ((Fr.refl (fun k => (Value.slice (some ⟨g, o, none⟩) l.length c').ownBlock = some k) _).grown hg (fun k hk => .inl hk)).heap HX10.out.obj (row_block_ne HX10.out.fns.row HX10.out.obj (by decide))
  have x1 := cell_of_heap (o := 1) ob rfl
  have y1 := frozen_of_heap (o := 1) ob
  clear ho hg hb ob
  refine hK' _ _ (trivial) ?_
  clear hK'
  try simp only [Act.put, List.setIfInBounds_toArray, List.set_cons_zero, List.set_cons_succ]
  refine Lex.done ?_
  refine Lex.opens (fun _ => True) (trivial) ?_
  repeat (first
    | (refine Lex.skips (by rfl) ?_; (try simp only [Act.put, List.setIfInBounds_toArray, List.set_cons_zero, List.set_cons_succ]))
    | (refine Lex.quiet (v := ?_) (by rfl) (by rfl) ?_ ?_; rotate_left; (focus (intro w' hS'; go_simp; try rfl)); (try simp only [Act.put, List.setIfInBounds_toArray, List.set_cons_zero, List.set_cons_succ])))
  refine Lex.loud (by rfl) (by rfl) ?_
  intro K' hK'
  go_simp
  refine hK' _ _ (trivial) ?_
  clear hK'
  try simp only [Act.put, List.setIfInBounds_toArray, List.set_cons_zero, List.set_cons_succ]
  refine Lex.done ?_
  refine Lex.ends ?_
  clear x1 y1 HX10 HR10 HBS10 c10 AT10 AT c1 HX9 HBS9
  generalize w12.setCell ⟨b0, 1, none⟩ (.slice ga2 (l.length + 1) gc2) = w13 at *
  have HMX : Hid (ModIn w13 ⟨m.d ++ bs, m.f ++ [⟨fp, fr', far, fcode⟩]⟩ ga gc ga2) := Lib.hid (by
    have := HX12.out.mod
    rw [List.map_append, HLF.out] at this
    exact this)
  have HSX : Hid (Mx.Small ⟨m.d ++ bs, m.f ++ [⟨fp, fr', far, fcode⟩]⟩) := Lib.hid ⟨by simp; omega, by simp; omega, fun f hf' => by
    rcases List.mem_append.1 hf' with h | h
    · exact HS.out.each f h
    · rw [List.mem_singleton] at h; rw [h]; exact HS.out.each _ HGF.out.2, fun b hb => by
    rcases List.mem_append.1 hb with h | h
    · exact HS.out.lt b h
    · exact HLT.out b h⟩
  have HFX : Hid (∀ f ∈ (⟨m.d ++ bs, m.f ++ [⟨fp, fr', far, fcode⟩]⟩ : Mx).f, FnSmall f) := Lib.hid (fun f hf' => by
    rcases List.mem_append.1 hf' with h | h
    · exact HF.out f h
    · rw [List.mem_singleton] at h; rw [h]; exact HF.out _ HGF.out.2)
  have HCX := Lib.hid (vcheck_ok w13 _ _ _ gc gc2 HMX.out HSX.out HFX.out)
  rw [HGF.out.1.find, List.length_append, List.length_append, ← HLL.out, List.length_singleton] at HCX
  have R13 := Lib.hid HX12.out.fr
  have ob := HX12.out.obj
  rw [List.length_append, List.length_append, List.length_singleton] at ob
  obtain ⟨n0, n1⟩ := cells2 ob
  clear ob HX12
  go_wp2_with fail
  refine HCX.out.mono ?_
  rintro e w14 ⟨rfl, r14⟩
  have R14 := Lib.hid (R13.out.trans r14)
  clear r14 n0 n1
  go_wp2_with fail
  go_ret
  exact ⟨rfl, R14.out⟩

theorem more12_rd (w : World) (s0 : Array Value) {n0 : Nat} {d0 : Dt} (h0 : Rd Tryz.prog w n0 38 s0.toList d0) (v1 : Value) {n1 : Nat} {d1 : Dt} (h1 : Rd Tryz.prog w n1 35 [v1] d1) (which : Int) :
    Calls Tryz.prog 7 #[.agg s0, v1, .int .i64 which] w fun e w' => e = .returned (.bool true) ∧ Fr no w w' := by
  obtain ⟨m, da, dc, fa, fc, hs, hm, hr⟩ := mod_of h0
  obtain rfl : s0 = #[.slice da m.d.length dc, .slice fa m.f.length fc] := Array.ext' hs
  obtain ⟨bs, hb, hlt, -⟩ := bytes_of h1
  exact more12_ok w m da fa dc fc hm hr v1 bs hb hlt which

end Go.Proofs.YtofahdjnejodjaaGreat

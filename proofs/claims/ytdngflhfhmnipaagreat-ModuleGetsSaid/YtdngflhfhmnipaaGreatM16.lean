/- module.Get's walk. -/
import Derived.Test.YtdngflhfhmnipaaGreatM15
import Derived.Deep.DeepCutAuto
set_option linter.unusedSimpArgs false
set_option linter.unusedVariables false
set_option linter.unusedSectionVars false
set_option linter.unnecessarySimpa false
namespace Go.Proofs.YtdngflhfhmnipaaGreat
open Go.RowKit

attribute [local go_sem] Program.isFuncB Program.isSliceB

variable {w w' w'' w0 : World}

theorem heap_keep {b : Nat} {o : Obj} (h : w.heap[b]? = some o) (o' : Obj) : (w.alloc o').heap[b]? = some o := ((Fr.refl no w).alloc o').heap h (by simp)
theorem five (w : World) (o0 o1 o2 o3 o4 : Obj) : (((((w.alloc o0).alloc o1).alloc o2).alloc o3).alloc o4).heap[w.heap.size]? = some o0 ∧ (((((w.alloc o0).alloc o1).alloc o2).alloc o3).alloc o4).heap[w.heap.size + 1]? = some o1 ∧
    (((((w.alloc o0).alloc o1).alloc o2).alloc o3).alloc o4).heap[w.heap.size + 2]? = some o2 ∧ (((((w.alloc o0).alloc o1).alloc o2).alloc o3).alloc o4).heap[w.heap.size + 3]? = some o3 ∧ (((((w.alloc o0).alloc o1).alloc o2).alloc o3).alloc o4).heap[w.heap.size + 4]? = some o4 := by
  have a1 : ((w.alloc o0).alloc o1).heap[w.heap.size + 1]? = some o1 := by have := heap_new (w.alloc o0) o1; rwa [World.size_alloc] at this
  have a2 : (((w.alloc o0).alloc o1).alloc o2).heap[w.heap.size + 2]? = some o2 := by have := heap_new ((w.alloc o0).alloc o1) o2; rwa [World.size_alloc, World.size_alloc] at this
  have a3 : ((((w.alloc o0).alloc o1).alloc o2).alloc o3).heap[w.heap.size + 3]? = some o3 := by have := heap_new (((w.alloc o0).alloc o1).alloc o2) o3; rwa [World.size_alloc, World.size_alloc, World.size_alloc] at this
  have a4 : (((((w.alloc o0).alloc o1).alloc o2).alloc o3).alloc o4).heap[w.heap.size + 4]? = some o4 := by have := heap_new ((((w.alloc o0).alloc o1).alloc o2).alloc o3) o4; rwa [World.size_alloc, World.size_alloc, World.size_alloc, World.size_alloc] at this
  exact ⟨heap_keep (heap_keep (heap_keep (heap_keep (heap_new w o0) _) _) _) _, heap_keep (heap_keep (heap_keep a1 _) _) _, heap_keep (heap_keep a2 _) _, heap_keep a3 _, a4⟩

section
variable {wr wr' : World} {bv dv dv' fv fv' : Value} {bs ds ds' : List Nat} {l l' : List FxV} {s s' : Pl}
theorem GtS.blk (h : GtS w wr bv dv fv bs ds [] s) (hf : fv = .slice none 0 0) (r : Fr (only [w.heap.size + 2, w.heap.size + 3]) wr wr') (hp : PlAt wr' (w.heap.size + 2) bv bs s')
    (hr : wr'.heap[w.heap.size + 3]? = some (.cells #[.pointer (some ⟨w.heap.size + 2, 0, none⟩), dv', fv] 68 (0, 0))) (ho : wr'.ownsRow wr.heap.size 5 1 dv' ds'.length (u8s ds')) (hn : Nums .u8 wr' dv') : GtS w wr' bv dv' fv bs ds' [] s' := by
  subst hf
  exact ⟨h.fr.trans' r (fun k hk _ => by simp at hk; omega), r.heap h.mod (by simp), r.heap h.fault (by simp), hp, hr, owns_base ho (fun k hk => by have := (ho.lt k hk).1; have := h.fr.size; omega), hn, ⟨World.ownsRow_nil _ _ _ _, fun p hp => (by cases hp)⟩⟩
theorem GtS.fun (h : GtS w wr bv dv fv bs ds l s) (r : Fr (fun k => k = w.heap.size + 2 ∨ k = w.heap.size + 3 ∨ fv.ownBlock = some k) wr wr') (hp : PlAt wr' (w.heap.size + 2) bv bs s')
    (hr : wr'.heap[w.heap.size + 3]? = some (.cells #[.pointer (some ⟨w.heap.size + 2, 0, none⟩), dv, fv'] 68 (0, 0))) (hf : FnsOwn wr' w.heap.size fv' l') : GtS w wr' bv dv fv' bs ds l' s' := by
  have hd : ∀ k, dv.ownBlock = some k → ¬ (k = w.heap.size + 2 ∨ k = w.heap.size + 3 ∨ fv.ownBlock = some k) := fun k hk e => by
    rcases e with e | e | e
    · subst e; exact row_block_ne h.data h.pl.obj (by decide) hk
    · subst e; exact row_block_ne h.data h.rd (by decide) hk
    · exact rows_ne h.data h.fns.row (by decide) k hk e
  exact ⟨h.fr.trans' r (fun k hk _ => by rcases hk with hk | hk | hk; omega; omega; exact (h.fns.row.lt k hk).1), r.heap h.mod (by
      rintro (e | e | e)
      · omega
      · omega
      · exact row_block_ne h.fns.row h.mod (by decide) e), r.heap h.fault (by
      rintro (e | e | e)
      · omega
      · omega
      · exact row_block_ne h.fns.row h.fault (by decide) e), hp, hr, owns_fr h.data r hd, h.nu.frx r (fun g hg => (h.data.lt g hg).2) hd, hf⟩
end

theorem results_two {P : Program} {fn : Func} {tmps : Array Value} {w : World} {d1 d2 : Tmp} {t1 t2 : TypeId} {a1 a2 : Addr} {v1 v2 : Value} (hr : fn.results = #[.cell d1 t1, .cell d2 t2])
    (h1 : tmps.getD d1 undef = .pointer (some a1)) (h2 : tmps.getD d2 undef = .pointer (some a2)) (l1 : (loadVar t1 a1).run P w = .ok v1 w) (l2 : (loadVar t2 a2).run P w = .ok v2 w) : (results fn tmps).run P w = .ok (.tuple #[v1, v2]) w := by
  have h1' : tmps[d1]?.getD undef = .pointer (some a1) := by rw [← h1]; simp [Array.getD_eq_getD_getElem?]
  have h2' : tmps[d2]?.getD undef = .pointer (some a2) := by rw [← h2]; simp [Array.getD_eq_getD_getElem?]
  simp only [results, hr]
  simp [h1', h2', asAddr, l1, l2]
theorem FnsOwn.read {base : Nat} {v : Value} {l : List FxV} (h : FnsOwn w base v l) : ∃ a c, v = .slice a l.length c ∧ FnsIn w a (l.map Prod.fst) :=
  fns_owns h.row (fun p hp => by
    obtain ⟨a, c, h1, h2⟩ := (h.code p hp).read
    cases h1
    exact h2)
theorem Tryz.infoMod2 : (Tryz.prog.info? 25).map (·.size) = some 2 := by kernel_rfl
theorem load_mod (w : World) (b : Nat) (u v : Value) (h : w.heap[b]? = some (.cells #[u, v] 25 (0, 0))) : (loadVar 25 ⟨b, 0, none⟩).run Tryz.prog w = .ok (.agg #[u, v]) w :=
  run_loadVar_row w b _ _ #[u, v] _ _ h Tryz.underlying25 rfl (by rw [Tryz.infoMod2]; rfl)
theorem load_fault (w : World) (b : Nat) (u v : Value) (h : w.heap[b]? = some (.cells #[u, v] 38 (0, 0))) : (loadVar 38 ⟨b, 0, none⟩).run Tryz.prog w = .ok (.agg #[u, v]) w :=
  run_loadVar_row w b _ _ #[u, v] _ _ h Tryz.underlying38 rfl (by rw [Tryz.infoFault]; rfl)

/-- the two results are laid into their cells -/
theorem GtS.done {wr : World} {bv dv fv : Value} {bs ds : List Nat} {l : List FxV} {s : Pl} (h : GtS w wr bv dv fv bs ds l s) (u v : Value) (er fa : Int) :
    let w2 := (wr.setRow w.heap.size #[u, v]).setRow (w.heap.size + 1) #[.int .i64 er, .int .i64 fa]
    (wr.setRow w.heap.size #[u, v]).heap[w.heap.size + 1]? = some (.cells #[.int .i64 0, .int .i64 0] 38 (0, 0)) ∧
    w2.heap[w.heap.size]? = some (.cells #[u, v] 25 (0, 0)) ∧ w2.heap[w.heap.size + 1]? = some (.cells #[.int .i64 er, .int .i64 fa] 38 (0, 0)) ∧ Fr no w w2 ∧ w2.ownsRow w.heap.size 5 1 dv ds.length (u8s ds) ∧ Nums .u8 w2 dv ∧ FnsOwn w2 w.heap.size fv l := by
  intro w2
  have r1 : Fr (only [w.heap.size]) wr (wr.setRow w.heap.size #[u, v]) := fr_setRow (Fr.refl _ wr) (.inl (by simp))
  have h1 := setRow_heap wr w.heap.size _ #[u, v] _ _ h.mod
  have f1 := r1.heap h.fault (by simp)
  have r2 : Fr (only [w.heap.size + 1]) (wr.setRow w.heap.size #[u, v]) w2 := fr_setRow (Fr.refl _ _) (.inl (by simp))
  have h2 := r2.heap h1 (by simp)
  have f2 := setRow_heap (wr.setRow w.heap.size #[u, v]) (w.heap.size + 1) _ #[.int .i64 er, .int .i64 fa] _ _ f1
  have r3 : Fr (fun k => k = w.heap.size ∨ k = w.heap.size + 1) wr w2 := (r1.mono (fun k hk _ => by simp at hk; exact .inl hk)).trans (r2.mono (fun k hk _ => by simp at hk; exact .inr hk))
  have hd : ∀ k, dv.ownBlock = some k → ¬ (k = w.heap.size ∨ k = w.heap.size + 1) := fun k hk e => by
    rcases e with e | e
    · subst e; exact row_block_ne h.data h.mod (by decide) hk
    · subst e; exact row_block_ne h.data h.fault (by decide) hk
  exact ⟨f1, h2, f2, h.fr.trans' r3 (fun k hk _ => by omega), owns_fr h.data r3 hd, h.nu.frx r3 (fun g hg => (h.data.lt g hg).2) hd, h.fns.odd r3 (fun k hk => by
    rcases hk with hk | hk
    · subst hk; exact .inr ⟨_, _, h.mod, by decide⟩
    · subst hk; exact .inr ⟨_, _, h.fault, by decide⟩)⟩

set_option maxRecDepth 100000 in
set_option maxHeartbeats 16000000 in
theorem modget_ok (w : World) (bv : Value) (bs : List Nat) (hb : Reads w bv 1 bs.length (u8s bs)) (hform : (bv = .slice none 0 0 ∧ bs = []) ∨ ∃ b o c, bv = .slice (some ⟨b, o, none⟩) bs.length c) (hlt : ∀ b ∈ bs, b < 256) (hbl : bs.length ≤ 100000) (hsm : (getMx bs).Small) (hold : ∀ k, bv.ownBlock = some k → k < w.heap.size) :
    Calls Tryz.prog 18 #[bv] w fun e w' => ∃ da dc fa fc, e = .returned (.tuple #[.agg #[.slice da (getM bs).1.d.length dc, .slice fa (getM bs).1.f.length fc], .agg #[.int .i64 (getM bs).2.1, .int .i64 (getM bs).2.2]]) ∧ ModIn w' (getM bs).1 da dc fa ∧
      w'.ownsRow w.heap.size 5 1 (.slice da (getM bs).1.d.length dc) (getM bs).1.d.length (u8s (getM bs).1.d) ∧ Nums .u8 w' (.slice da (getM bs).1.d.length dc) ∧ Fr no w w' := by
  obtain ⟨va, vc, rfl⟩ := hb.shape
  have hfv := five w (.cells #[.slice none 0 0, .slice none 0 0] 25) (.cells #[.int .i64 0, .int .i64 0] 38) (.cells #[.slice va bs.length vc, .int .i64 0, .int .i64 0, .int .i64 0] 66) (.cells #[.pointer (some ⟨w.heap.size + 2, 0, none⟩), .slice none 0 0, .slice none 0 0] 68) (.cells #[.int .i64 0] 3)
  have r5 : Fr no w (((((w.alloc (.cells #[.slice none 0 0, .slice none 0 0] 25)).alloc (.cells #[.int .i64 0, .int .i64 0] 38)).alloc (.cells #[.slice va bs.length vc, .int .i64 0, .int .i64 0, .int .i64 0] 66)).alloc (.cells #[.pointer (some ⟨w.heap.size + 2, 0, none⟩), .slice none 0 0, .slice none 0 0] 68)).alloc (.cells #[.int .i64 0] 3)) := (((((Fr.refl no w).alloc _).alloc _).alloc _).alloc _).alloc _
  have HB5 := Lib.hid (hb.fr r5 (by simp))
  have R5 := Lib.hid r5
  have HFV := Lib.hid hfv
  have HFO := Lib.hid hform
  have hlt2 := Lib.hid hlt
  have HOL := Lib.hid hold
  clear hb r5 hfv hform hlt hold
  go_enter Tryz.func18, Tryz.ntmps18
  go_upto_region 3 with fail
  generalize ((((w.alloc (.cells #[.slice none 0 0, .slice none 0 0] 25)).alloc (.cells #[.int .i64 0, .int .i64 0] 38)).alloc (.cells #[.slice va bs.length vc, .int .i64 0, .int .i64 0, .int .i64 0] 66)).alloc (.cells #[.pointer (some ⟨w.heap.size + 2, 0, none⟩), .slice none 0 0, .slice none 0 0] 68)).alloc (.cells #[.int .i64 0] 3) = w5 at *
  have G5 : Hid (GtS w w5 (.slice va bs.length vc) (.slice none 0 0) (.slice none 0 0) bs [] [] ⟨0, 0, 0⟩) := Lib.hid ⟨R5.out, HFV.out.1, HFV.out.2.1, ⟨HFV.out.2.2.1, HB5.out, fun k hk => by have := HOL.out k hk; omega, by show 0 ≤ bs.length; omega, HFO.out⟩, HFV.out.2.2.2.1, World.ownsRow_nil _ _ _ _, Nums.nil _ _ _ _, ⟨World.ownsRow_nil _ _ _ _, fun p hp => (by cases hp)⟩⟩
  have NB5 := Lib.hid HFV.out.2.2.2.2
  clear HB5 R5 HFV
  -- what is told
  have EM : Hid (getM bs = if (getG bs).er ≠ 0 then (⟨[], []⟩, (getG bs).er, (getG bs).fa) else (getMx bs, 0, 0)) := Lib.hid rfl
  have EG : Hid (getG bs = if modCk (getMx bs) ≠ 0 then failP (getF bs) 2 0 else getF bs) := Lib.hid rfl
  have EF : Hid (getF bs = if (getE bs).2.at_ < bs.length then failP (getE bs).2 4 (getE bs).2.at_ else (getE bs).2) := Lib.hid rfl
  have EMX : Hid (getMx bs = ⟨(getB bs).1, (getE bs).1⟩) := Lib.hid rfl
  have EE : Hid (getE bs = loopP bs (getN bs) ([], getD bs)) := Lib.hid rfl
  have ED : Hid (getD bs = if (getC bs).2.er = 0 ∧ (getN bs < 1 ∨ 64 < getN bs) then failP (getC bs).2 2 (getB bs).2.at_ else (getC bs).2) := Lib.hid rfl
  have EN : Hid (unle (getC bs).1 = getN bs) := Lib.hid rfl
  have EC : Hid (takeP bs 1 (getB bs).2 = getC bs) := Lib.hid rfl
  have EB : Hid (blockP bs 8192 (headP bs) = getB bs) := Lib.hid rfl
  have NL : Hid (getN bs < 256) := Lib.hid (by
    have h1 := takeP_lt hlt2.out 1 (getB bs).2
    have h2 := takeP_len bs 1 (getB bs).2 (getB_at bs)
    have := unle_lt (getC bs).1 h1
    have h3 : 256 ^ (getC bs).1.length ≤ 256 ^ 1 := Nat.pow_le_pow_right (by decide) h2
    show unle (getC bs).1 < 256
    omega)
  have SM := Lib.hid hsm
  have LF := Lib.hid (fun k => loopP_len bs (getD bs) k)
  clear hsm
  have LS : Hid (∀ k l s, loopP bs k ([], getD bs) = (l, s) → s.er = 0 → loopP bs (k + 1) ([], getD bs) = (l ++ (functionP bs s).1, (functionP bs s).2)) := Lib.hid (fun k l s h h0 => by
    show (let y := loopP bs k ([], getD bs); if y.2.er = 0 then (y.1 ++ (functionP bs y.2).1, (functionP bs y.2).2) else y) = _
    rw [h]
    dsimp only
    rw [if_pos h0])
  have LN : Hid (∀ k l s, loopP bs k ([], getD bs) = (l, s) → s.er ≠ 0 → loopP bs (k + 1) ([], getD bs) = (l, s)) := Lib.hid (fun k l s h h0 => by
    show (let y := loopP bs k ([], getD bs); if y.2.er = 0 then (y.1 ++ (functionP bs y.2).1, (functionP bs y.2).2) else y) = _
    rw [h]
    dsimp only
    rw [if_neg h0])
  have HH := Lib.hid (head_ok w5.drew (w.heap.size + 3) (w.heap.size + 2) (.slice va bs.length vc) (.slice none 0 0) (.slice none 0 0) bs (G5.out.to (Fr.refl no w5).drew).rd (G5.out.to (Fr.refl no w5).drew).pl hlt2.out (by omega))
  refine Lex.region [1, 6] [7] (by kernel_rfl) (by kernel_rfl) ?_
  refine Lex.opens (fun _ => True) (trivial) ?_
  repeat (first
    | (refine Lex.skips (by rfl) ?_; (try simp only [Act.put, List.setIfInBounds_toArray, List.set_cons_zero, List.set_cons_succ]))
    | (refine Lex.quiet (v := ?_) (by rfl) (by rfl) ?_ ?_; rotate_left; (focus (intro w' hS'; go_simp; try rfl)); (try simp only [Act.put, List.setIfInBounds_toArray, List.set_cons_zero, List.set_cons_succ])))
  refine Lex.loud (by rfl) (by rfl) ?_
  intro K' hK'
  go_simp
  refine HH.out.mono ?_
  rintro e w6 ⟨rfl, hp6, r6⟩
  have G6 := Lib.hid ((G5.out.to (Fr.refl no w5).drew).pb r6 hp6)
  have NB6 := Lib.hid (r6.heap (((Fr.refl no w5).drew).heap NB5.out (by simp)) (by simp))
  have HBK := Lib.hid (block_ok w6 (w.heap.size + 3) (w.heap.size + 2) (w.heap.size + 3) 1 8192 (.slice va bs.length vc) (.slice none 0 0) (.slice none 0 0) bs (headP bs) _ _ G6.out.rd G6.out.pl G6.out.rd (by simp) hlt2.out (by omega) (by omega) (fun k hk => by have := HOL.out k hk; have := G6.out.fr.size; omega) (by omega))
  rw [EB.out] at HBK
  clear hp6 r6 HH G5 NB5 EB
  generalize getB bs = gb at *
  refine hK' _ _ (trivial) ?_
  clear hK'
  try simp only [Act.put, List.setIfInBounds_toArray, List.set_cons_zero, List.set_cons_succ]
  repeat (first
    | (refine Lex.skips (by rfl) ?_; (try simp only [Act.put, List.setIfInBounds_toArray, List.set_cons_zero, List.set_cons_succ]))
    | (refine Lex.quiet (v := ?_) (by rfl) (by rfl) ?_ ?_; rotate_left; (focus (intro w' hS'; go_simp; try rfl)); (try simp only [Act.put, List.setIfInBounds_toArray, List.set_cons_zero, List.set_cons_succ])))
  refine Lex.loud (by rfl) (by rfl) ?_
  intro K' hK'
  go_simp
  refine HBK.out.mono ?_
  rintro e w7 ⟨rfl, hp7, ⟨dv, hd7, ho7, hn7⟩, r7⟩
  have G7 : Hid (GtS w w7 (.slice va bs.length vc) dv (.slice none 0 0) bs gb.1 [] gb.2) := Lib.hid (G6.out.blk rfl r7 hp7 (by simpa using hd7) ho7 hn7)
  have NB7 := Lib.hid (r7.heap NB6.out (by simp))
  clear hp7 hd7 ho7 hn7 r7 HBK G6 NB6
  refine hK' _ _ (trivial) ?_
  clear hK'
  try simp only [Act.put, List.setIfInBounds_toArray, List.set_cons_zero, List.set_cons_succ]
  refine Lex.done ?_
  refine Lex.ends ?_
  have c0 : w7.cell? ⟨w.heap.size + 3, 0, none⟩ = some (.pointer (some ⟨w.heap.size + 2, 0, none⟩)) := cell_of_heap G7.out.rd rfl
  have d1 : w7.cell? ⟨w.heap.size + 2, 1, none⟩ = some (.int .i64 gb.2.at_) := cell_of_heap G7.out.pl.obj rfl
  have HN := Lib.hid (num_ok w7 (w.heap.size + 3) (w.heap.size + 2) (w.heap.size + 4) 0 1 (.slice va bs.length vc) dv (.slice none 0 0) bs gb.2 _ _ G7.out.rd G7.out.pl NB7.out rfl (.inl rfl) hlt2.out (by omega) (by omega) (fun k hk => by have := HOL.out k hk; omega))
  rw [EC.out, EN.out] at HN
  clear EC EN
  generalize getC bs = gc at *
  generalize getN bs = gn at *
  go_wp2_with fail
  refine HN.out.mono ?_
  rintro e w8 ⟨rfl, hp8, hn8, r8⟩
  have G8 := Lib.hid (G7.out.nb (.inr ⟨by omega, _, NB7.out, rfl⟩) r8 hp8 rfl rfl)
  have NB8 : Hid (w8.heap[w.heap.size + 4]? = some (.cells #[.int .i64 gn] 3 (0, 0))) := Lib.hid (by simpa using hn8)
  clear hp8 hn8 r8 HN G7 NB7 c0 d1
  have c0 : w8.cell? ⟨w.heap.size + 3, 0, none⟩ = some (.pointer (some ⟨w.heap.size + 2, 0, none⟩)) := cell_of_heap G8.out.rd rfl
  have d2 : w8.cell? ⟨w.heap.size + 2, 2, none⟩ = some (.int .i64 gc.2.er) := cell_of_heap G8.out.pl.obj rfl
  have n0 : w8.cell? ⟨w.heap.size + 4, 0, none⟩ = some (.int .i64 gn) := cell_of_heap NB8.out rfl
  have FA := Lib.hid (fail_ok w8 (w.heap.size + 2) (.slice va bs.length vc) bs gc.2 2 gb.2.at_ G8.out.pl)
  have NL2 := NL.out
  generalize getD bs = gd at *
  go_upto_region 6 with fail
  go_cut [44] (fun b wx => b = .bool (decide (gc.2.er = 0 ∧ (gn < 1 ∨ 64 < gn))) ∧ wx = w8)
  case first =>
    by_cases h0 : gc.2.er = 0
    case neg =>
      have e1 : (gc.2.er == 0) = false := by simpa using h0
      have HD := Lib.hid (decide_eq_false (fun h : gc.2.er = 0 ∧ (gn < 1 ∨ 64 < gn) => h0 h.1))
      clear h0
      go_wp2_with fail
      go_meet
      exact ⟨by rw [HD.out], rfl⟩
    have e1 : (gc.2.er == 0) = true := by simpa using h0
    by_cases h1 : gn < 1
    · have HD := Lib.hid (decide_eq_true (show gc.2.er = 0 ∧ (gn < 1 ∨ 64 < gn) from ⟨h0, .inl h1⟩))
      have h1' : (gn : Int) < 1 := by omega
      clear h1 h0
      go_wp2_with fail
      go_meet
      exact ⟨by rw [HD.out], rfl⟩
    have h1' : ¬ (gn : Int) < 1 := by omega
    by_cases h2 : 64 < gn
    · have HD := Lib.hid (decide_eq_true (show gc.2.er = 0 ∧ (gn < 1 ∨ 64 < gn) from ⟨h0, .inr h2⟩))
      have h2' : (64 : Int) < gn := by omega
      clear h1 h0 h2
      go_wp2_with fail
      go_meet
      exact ⟨by rw [HD.out], rfl⟩
    · have HD := Lib.hid (decide_eq_false (show ¬ (gc.2.er = 0 ∧ (gn < 1 ∨ 64 < gn)) from fun h => by omega))
      have h2' : ¬ (64 : Int) < gn := by omega
      clear h1 h0 h2
      go_wp2_with fail
      go_meet
      exact ⟨by rw [HD.out], rfl⟩
  case rest =>
    obtain ⟨rfl, hwc⟩ := hcut
    subst hwc
    obtain ⟨w9, h9⟩ : ∃ x, x = wc := ⟨_, rfl⟩
    subst h9
    go_upto_if 44 with fail
    go_cut [] (fun wx => Hid (GtS w wx (.slice va bs.length vc) dv (.slice none 0 0) bs gb.1 [] gd) ∧ Hid (wx.heap[w.heap.size + 4]? = some (.cells #[.int .i64 gn] 3 (0, 0))))
    case first =>
      by_cases hc : gc.2.er = 0 ∧ (gn < 1 ∨ 64 < gn)
      case neg =>
        have GX : GtS w w9 (.slice va bs.length vc) dv (.slice none 0 0) bs gb.1 [] gd := by rw [ED.out, if_neg hc]; exact G8.out
        have NX := NB8.out
        rw [decide_eq_false hc]
        clear hc
        go_wp2_with fail
        go_meet
        exact ⟨Lib.hid GX, Lib.hid NX⟩
      have GY : Hid (gd = failP gc.2 2 gb.2.at_) := Lib.hid (by rw [ED.out, if_pos hc])
      rw [decide_eq_true hc]
      clear hc
      go_wp2_with fail
      refine FA.out.mono ?_
      rintro e WW ⟨rfl, hp9, r9⟩
      have GX : GtS w WW (.slice va bs.length vc) dv (.slice none 0 0) bs gb.1 [] gd := by rw [GY.out]; exact G8.out.pb r9 hp9
      have NX := r9.heap NB8.out (by simp)
      go_wp2_with fail
      go_meet
      exact ⟨Lib.hid GX, Lib.hid NX⟩
    case rest =>
      clear c0 d2 n0 FA G8 NB8 ED
      obtain ⟨GXH, NXH⟩ := hcut
      have n0 : wc.cell? ⟨w.heap.size + 4, 0, none⟩ = some (.int .i64 gn) := cell_of_heap NXH.out rfl
      obtain ⟨wb, hwb⟩ : ∃ x, x = wc := ⟨_, rfl⟩
      subst hwb
      have L0 : Hid (loopP bs 0 ([], gd) = (([] : List FxV).map Prod.fst, gd)) := Lib.hid rfl
      have NLN : Hid (∀ k (l : List FxV) s, loopP bs k ([], gd) = (l.map Prod.fst, s) → l.length ≤ k) := Lib.hid (fun k l s h => by have := LF.out k; rw [h] at this; simpa using this)
      go_wp2_with fail
      go_loopw [52] (fun x wr => ∃ (k : Nat) (l : List FxV) (s : Pl) (fv : Value), k ≤ gn ∧ x = .int .i64 k ∧ l.length ≤ k ∧ Hid (loopP bs k ([], gd) = (l.map Prod.fst, s)) ∧ Hid (GtS w wr (.slice va bs.length vc) dv fv bs gb.1 l s)) (fun x _ => (gn - intOf x).toNat)
      case atStart => exact ⟨0, [], gd, .slice none 0 0, by omega, rfl, by simp, L0, GXH⟩
      case round =>
        obtain ⟨k, l, s, fv, hk, rfl, hlk, hlp, hG⟩ := hrel
        have c0 : wr.cell? ⟨w.heap.size + 3, 0, none⟩ = some (.pointer (some ⟨w.heap.size + 2, 0, none⟩)) := cell_of_heap hG.out.rd rfl
        have d2 : wr.cell? ⟨w.heap.size + 2, 2, none⟩ = some (.int .i64 s.er) := cell_of_heap hG.out.pl.obj rfl
        by_cases hks : k < gn
        · have hks' : (k : Int) < gn := by omega
          by_cases hs : s.er = 0
          · have e1 : (s.er == 0) = true := by simpa using hs
            have HF := Lib.hid (function_ok wr w.heap.size (w.heap.size + 3) (w.heap.size + 2) (.slice va bs.length vc) dv fv bs s l hG.out.rd hG.out.pl hG.out.fns hG.out.fr.size hlt2.out (by omega) HOL.out (by omega) (by omega))
            have LS2 := Lib.hid (LS.out k _ s hlp.out hs)
            clear hs
            go_wp2_with fail
            refine HF.out.mono ?_
            rintro e w3 ⟨rfl, hp3, fv3, l3, hr3, hf3, hl3, r3⟩
            have G3 := Lib.hid (hG.out.fun r3 hp3 hr3 hf3)
            have LP3 : Hid (loopP bs (k + 1) ([], gd) = (l3.map Prod.fst, (functionP bs s).2)) := Lib.hid (by rw [LS2.out, hl3])
            clear hp3 hr3 hf3 hl3 r3 c0 d2 HF LS2
            go_wp2_with fail
            go_roundw
            case rel => exact ⟨k + 1, l3, _, fv3, by omega, by go_num, NLN.out _ _ _ LP3.out, LP3, G3⟩
            case measure => first | (simp [intOf]; done) | (simp [intOf]; omega)
          · have e1 : (s.er == 0) = false := by simpa using hs
            have LS2 := Lib.hid (LN.out k _ s hlp.out hs)
            clear hs
            go_wp2_with fail
            go_roundw
            case rel => exact ⟨k + 1, l, s, fv, by omega, by go_num, by omega, LS2, hG⟩
            case measure => first | (simp [intOf]; done) | (simp [intOf]; omega)
        · obtain rfl : k = gn := by omega
          have EE2 : Hid (getE bs = (l.map Prod.fst, s)) := Lib.hid (by rw [EE.out]; exact hlp.out)
          rw [EE2.out] at EF EMX
          rw [EMX.out] at SM
          clear EE EE2 LF LS LN NLN L0 hlp GXH NXH n0 hks
          generalize getF bs = gf at *
          have d1 : wr.cell? ⟨w.heap.size + 2, 1, none⟩ = some (.int .i64 s.at_) := cell_of_heap hG.out.pl.obj rfl
          clear d2
          go_upto_if 75 with fail
          go_cut [] (fun wx => Hid (GtS w wx (.slice va bs.length vc) dv fv bs gb.1 l gf))
          case first =>
            by_cases hs : s.at_ < bs.length
            case neg =>
              have hs' : ¬ (s.at_ : Int) < bs.length := by omega
              have GX : GtS w wr (.slice va bs.length vc) dv fv bs gb.1 l gf := by rw [EF.out, if_neg hs]; exact hG.out
              clear hs
              go_wp2_with fail
              go_meet
              exact Lib.hid GX
            have hs' : (s.at_ : Int) < bs.length := by omega
            have GY : Hid (gf = failP s 4 s.at_) := Lib.hid (by rw [EF.out, if_pos hs])
            have FA := Lib.hid (fail_ok wr.drew (w.heap.size + 2) (.slice va bs.length vc) bs s 4 s.at_ (hG.out.to (Fr.refl no wr).drew).pl)
            have x0 : wr.drew.cell? ⟨w.heap.size + 3, 0, none⟩ = some (.pointer (some ⟨w.heap.size + 2, 0, none⟩)) := c0
            have x1 : wr.drew.cell? ⟨w.heap.size + 2, 1, none⟩ = some (.int .i64 s.at_) := d1
            clear hs
            go_upto_region 14 with fail
            refine Lex.region [11] [12] (by kernel_rfl) (by kernel_rfl) ?_
            refine Lex.opens (fun w' => w'.cell? ⟨w.heap.size + 3, 0, none⟩ = some (.pointer (some ⟨w.heap.size + 2, 0, none⟩)) ∧ w'.cell? ⟨w.heap.size + 2, 1, none⟩ = some (.int .i64 s.at_)) (⟨x0, x1⟩) ?_
            repeat (first
              | (refine Lex.skips (by rfl) ?_; (try simp only [Act.put, List.setIfInBounds_toArray, List.set_cons_zero, List.set_cons_succ]))
              | (refine Lex.quiet (v := ?_) (by rfl) (by rfl) ?_ ?_; rotate_left; (focus (intro w' hS'; go_simp; try rfl)); (try simp only [Act.put, List.setIfInBounds_toArray, List.set_cons_zero, List.set_cons_succ])))
            refine Lex.loud (by rfl) (by rfl) ?_
            intro K' hK'
            go_simp
            refine FA.out.mono ?_
            rintro e w3 ⟨rfl, hp3, r3⟩
            have GX : GtS w w3 (.slice va bs.length vc) dv fv bs gb.1 l gf := by rw [GY.out]; exact (hG.out.to (Fr.refl no wr).drew).pb r3 hp3
            have y1 : w3.cell? ⟨w.heap.size + 2, 1, none⟩ = some (.int .i64 s.at_) := by have := cell_of_heap (o := 1) hp3.obj rfl; rw [failP_at] at this; exact this
            refine hK' _ _ (⟨cell_of_heap GX.rd rfl, y1⟩) ?_
            clear hK'
            try simp only [Act.put, List.setIfInBounds_toArray, List.set_cons_zero, List.set_cons_succ]
            refine Lex.done ?_
            refine Lex.ends ?_
            go_wp2_with fail
            go_meet
            exact Lib.hid GX
          case rest =>
            obtain ⟨w10, h10⟩ : ∃ x, x = wc := ⟨_, rfl⟩
            subst h10
            have GF := hcut
            clear hcut c0 d1 hG EF
            obtain ⟨da, dc, rfl⟩ := owns_shape GF.out.data
            obtain ⟨fa, fc, rfl, hfr⟩ := GF.out.fns.read
            have HFR := Lib.hid hfr
            clear hfr
            have c0 : w10.cell? ⟨w.heap.size + 3, 0, none⟩ = some (.pointer (some ⟨w.heap.size + 2, 0, none⟩)) := cell_of_heap GF.out.rd rfl
            have c1 : w10.cell? ⟨w.heap.size + 3, 1, none⟩ = some (.slice da gb.1.length dc) := cell_of_heap GF.out.rd rfl
            have c2 : w10.cell? ⟨w.heap.size + 3, 2, none⟩ = some (.slice fa l.length fc) := cell_of_heap GF.out.rd rfl
            have HCK := Lib.hid (check_mod w10 ⟨gb.1, l.map Prod.fst⟩ da dc fa fc ⟨owns_reads GF.out.data, HFR.out⟩ SM.out)
            dsimp only at HCK
            rw [List.length_map] at HCK
            rw [EMX.out] at EG EM
            generalize modCk ⟨gb.1, l.map Prod.fst⟩ = ck at *
            generalize getG bs = gg at *
            go_wp2_with fail
            refine HCK.out.mono ?_
            rintro e w11 ⟨rfl, r11⟩
            have GG := Lib.hid (GF.out.to r11)
            have HFR2 := Lib.hid (HFR.out.fr r11)
            clear HCK GF HFR r11 c0 c1 c2
            have c0 : w11.cell? ⟨w.heap.size + 3, 0, none⟩ = some (.pointer (some ⟨w.heap.size + 2, 0, none⟩)) := cell_of_heap GG.out.rd rfl
            go_upto_if 93 with fail
            go_cut [] (fun wx => Hid (GtS w wx (.slice va bs.length vc) (.slice da gb.1.length dc) (.slice fa l.length fc) bs gb.1 l gg))
            case first =>
              by_cases hs : ck = 0
              case pos =>
                have e1 : (ck != 0) = false := by simpa using hs
                have GX : GtS w w11 (.slice va bs.length vc) (.slice da gb.1.length dc) (.slice fa l.length fc) bs gb.1 l gg := by rw [EG.out, if_neg (by simpa using hs)]; exact GG.out
                clear hs
                go_wp2_with fail
                go_meet
                exact Lib.hid GX
              have e1 : (ck != 0) = true := by simpa using hs
              have GY : Hid (gg = failP gf 2 0) := Lib.hid (by rw [EG.out, if_pos hs])
              have FA := Lib.hid (fail_ok w11 (w.heap.size + 2) (.slice va bs.length vc) bs gf 2 0 GG.out.pl)
              clear hs
              go_wp2_with fail
              refine FA.out.mono ?_
              rintro e w3 ⟨rfl, hp3, r3⟩
              have GX : GtS w w3 (.slice va bs.length vc) (.slice da gb.1.length dc) (.slice fa l.length fc) bs gb.1 l gg := by rw [GY.out]; exact GG.out.pb r3 hp3
              go_wp2_with fail
              go_meet
              exact Lib.hid GX
            case rest =>
              obtain ⟨w12, h12⟩ : ∃ x, x = wc := ⟨_, rfl⟩
              subst h12
              have GH := hcut
              clear hcut c0 GG HFR2 EG
              obtain ⟨fa', fc', hfe, hfr⟩ := GH.out.fns.read
              cases hfe
              have HFR := Lib.hid hfr
              clear hfr
              have c0 : w12.cell? ⟨w.heap.size + 3, 0, none⟩ = some (.pointer (some ⟨w.heap.size + 2, 0, none⟩)) := cell_of_heap GH.out.rd rfl
              have d2 : w12.cell? ⟨w.heap.size + 2, 2, none⟩ = some (.int .i64 gg.er) := cell_of_heap GH.out.pl.obj rfl
              by_cases hg : gg.er = 0
              · have e1 : (gg.er != 0) = false := by simpa using hg
                have EMQ : Hid (getM bs = (⟨gb.1, l.map Prod.fst⟩, 0, 0)) := Lib.hid (by rw [EM.out, if_neg (by simpa using hg)])
                have c1 : w12.cell? ⟨w.heap.size + 3, 1, none⟩ = some (.slice da gb.1.length dc) := cell_of_heap GH.out.rd rfl
                have c2 : w12.cell? ⟨w.heap.size + 3, 2, none⟩ = some (.slice fa l.length fc) := cell_of_heap GH.out.rd rfl
                clear hg EM
                have HD := Lib.hid (GH.out.done (.slice da gb.1.length dc) (.slice fa l.length fc) 0 0)
                have HM := Lib.hid GH.out.mod
                go_wp2_with (first
                  | (refine wpList_store_row rfl 25 (.tmp 2) (.tmp 119) rfl w.heap.size #[.slice da gb.1.length dc, .slice fa l.length fc] rfl rfl _ _ HM.out (by rw [Tryz.infoMod2]; rfl) rfl (by simp [Value.oneCell']) ?_; rw [act_put_none])
                  | (refine wpList_store_row rfl 38 (.tmp 3) (.tmp 120) rfl (w.heap.size + 1) #[.int .i64 0, .int .i64 0] rfl rfl _ _ HD.out.1 (by rw [Tryz.infoFault]; rfl) rfl (by simp [Value.oneCell']) ?_; rw [act_put_none]))
                (try simp only [Exit.inBlock, Exit.then])
                refine bodyPost_ret (results_two rfl rfl rfl (load_mod _ _ _ _ HD.out.2.1) (load_fault _ _ _ _ HD.out.2.2.1)) rfl ?_
                obtain ⟨-, -, -, q1, q2, q3, q4⟩ := HD.out
                obtain ⟨fa2, fc2, hfe2, hfr2⟩ := q4.read
                cases hfe2
                rw [EMQ.out]
                dsimp only
                refine ⟨da, dc, fa, ⟨fc, by rw [List.length_map]⟩, ⟨owns_reads q2, hfr2⟩, q2, q3, q1⟩
              · have e1 : (gg.er != 0) = true := by simpa using hg
                have EMQ : Hid (getM bs = (⟨[], []⟩, gg.er, gg.fa)) := Lib.hid (by rw [EM.out, if_pos hg])
                clear hg EM
                have GZ := Lib.hid (GH.out.to (Fr.refl no w12).drew)
                have HD := Lib.hid (GZ.out.done (.slice none 0 0) (.slice none 0 0) gg.er gg.fa)
                have x0 : w12.drew.cell? ⟨w.heap.size + 3, 0, none⟩ = some (.pointer (some ⟨w.heap.size + 2, 0, none⟩)) := c0
                have PA : At w12.drew (w.heap.size + 2) 2 [.int .i64 gg.er, .int .i64 gg.fa] := fun j v hj => by
                  match j, hj with
                  | 0, hj => cases hj; exact cell_of_heap (o := 2) GZ.out.pl.obj rfl
                  | 1, hj => cases hj; exact cell_of_heap (o := 3) GZ.out.pl.obj rfl
                go_upto_region 18 with fail
                refine Lex.region [8, 9] [9, 1] (by kernel_rfl) (by kernel_rfl) ?_
                refine Lex.opens (fun w' => w'.cell? ⟨w.heap.size + 3, 0, none⟩ = some (.pointer (some ⟨w.heap.size + 2, 0, none⟩)) ∧ At w' (w.heap.size + 2) 2 [.int .i64 gg.er, .int .i64 gg.fa]) (⟨x0, PA⟩) ?_
                repeat (first
                  | (refine Lex.skips (by rfl) ?_; (try simp only [Act.put, List.setIfInBounds_toArray, List.set_cons_zero, List.set_cons_succ]))
                  | (refine Lex.into (by rfl) (by rfl) _ _ rfl _ _ rfl _ _ (fun w' h => h.2) Tryz.underlying38 rfl (by rw [Tryz.infoFault]; rfl) ?_; (try simp only [Act.put, List.setIfInBounds_toArray, List.set_cons_zero, List.set_cons_succ]))
                  | (refine Lex.quiet (v := ?_) (by rfl) (by rfl) ?_ ?_; rotate_left; (focus (intro w' hS'; go_simp; try rfl)); (try simp only [Act.put, List.setIfInBounds_toArray, List.set_cons_zero, List.set_cons_succ])))
                refine Lex.loud (by rfl) (by rfl) ?_
                intro K' hK'
                refine wp_store_row 25 (.tmp 2) (.tmp 108) rfl w.heap.size #[.slice none 0 0, .slice none 0 0] rfl rfl _ _ GZ.out.mod (by rw [Tryz.infoMod2]; rfl) rfl (by simp [Value.oneCell']) ?_
                have rx : Fr (only [w.heap.size]) w12.drew (w12.drew.setRow w.heap.size #[.slice none 0 0, .slice none 0 0]) := fr_setRow (Fr.refl _ _) (.inl (by simp))
                refine hK' _ _ (⟨rx.cell x0 (by simp), PA.frx rx (by simp)⟩) ?_
                clear hK'
                try simp only [Act.put, List.setIfInBounds_toArray, List.set_cons_zero, List.set_cons_succ]
                refine Lex.done ?_
                refine Lex.opens (fun _ => True) (trivial) ?_
                refine Lex.loud (by rfl) (by rfl) ?_
                intro K' hK'
                refine wp_store_row 38 (.tmp 3) (.tmp 115) rfl (w.heap.size + 1) #[.int .i64 gg.er, .int .i64 gg.fa] rfl rfl _ _ HD.out.1 (by rw [Tryz.infoFault]; rfl) rfl (by simp [Value.oneCell']) ?_
                refine hK' _ _ (trivial) ?_
                clear hK'
                try simp only [Act.put, List.setIfInBounds_toArray, List.set_cons_zero, List.set_cons_succ]
                refine Lex.done ?_
                refine Lex.ends ?_
                go_wp2_with fail
                (try simp only [Exit.inBlock, Exit.then])
                refine bodyPost_ret (results_two rfl rfl rfl (load_mod _ _ _ _ HD.out.2.1) (load_fault _ _ _ _ HD.out.2.2.1)) rfl ?_
                obtain ⟨-, -, -, q1, -, -, -⟩ := HD.out
                rw [EMQ.out]
                dsimp only
                exact ⟨none, 0, none, ⟨0, rfl⟩, ⟨.inl ⟨rfl, rfl, rfl⟩, fun k hk => by simp at hk⟩, World.ownsRow_nil _ _ _ _, Nums.nil _ _ _ _, q1⟩

end Go.Proofs.YtdngflhfhmnipaaGreat

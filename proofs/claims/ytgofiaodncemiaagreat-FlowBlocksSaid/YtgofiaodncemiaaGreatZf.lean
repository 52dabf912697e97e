/- The document's Blocks (law10). -/
import Derived.Test.YtgofiaodncemiaaGreatZe
set_option linter.unusedSimpArgs false
set_option linter.unusedVariables false
set_option linter.unusedSectionVars false
set_option linter.unnecessarySimpa false
namespace Go.Proofs.YtgofiaodncemiaaGreat
open Go.RowKit Go.Flow

attribute [local go_sem] Program.isFuncB Program.isSliceB

variable {w w' w'' w0 : World}

theorem bCells_set : ∀ (bs : List Bk) (p : List Value) (v u : Value) (r : List Value), (p ++ v :: r).length = bs.length → (bCells bs (p ++ v :: r)).set (p.length * 3 + 2) u = bCells bs (p ++ u :: r)
  | [], p, v, u, r, h => by simp at h
  | b :: bs, [], v, u, r, _ => by simp [bCells]
  | b :: bs, x :: p, v, u, r, h => by
    have ih := bCells_set bs p v u r (by simpa using h)
    show (Value.int .i64 b.fr :: .int .i64 b.to :: x :: bCells bs (p ++ v :: r)).set ((p.length + 1) * 3 + 2) u = _
    rw [show (p.length + 1) * 3 + 2 = (p.length * 3 + 2) + 1 + 1 + 1 from by omega]
    simp only [List.set_cons_succ, ih]
    rfl
/-- where blocks begin and end, as rows of three cells, nothing behind them yet -/
def ctB (l : List (Nat × Nat)) : List Bk := l.map fun p => ⟨p.1, p.2, []⟩
def nils (n : Nat) : List Value := List.replicate n (.slice none 0 0)
theorem bCells_ext : ∀ (cs bs : List Bk) (vs : List Value), cs.map (fun b => (b.fr, b.to)) = bs.map (fun b => (b.fr, b.to)) → bCells cs vs = bCells bs vs
  | [], [], vs, _ => rfl
  | [], _ :: _, vs, h => by simp at h
  | _ :: _, [], vs, h => by simp at h
  | a :: cs, b :: bs, [], _ => rfl
  | a :: cs, b :: bs, v :: vs, h => by
    simp only [List.map_cons, List.cons.injEq, Prod.mk.injEq] at h
    have ih := bCells_ext cs bs vs h.2
    simp only [bCells, ih, h.1.1, h.1.2]
theorem bCells_last (p : List Bk) (b : Bk) (vs : List Value) (v : Value) (t : Nat) (h : vs.length = p.length) : (bCells (p ++ [b]) (vs ++ [v])).set (p.length * 3 + 1) (.int .i64 t) = bCells (p ++ [⟨b.fr, t, b.nx⟩]) (vs ++ [v]) := by
  rw [bCells_snoc _ _ _ _ h, bCells_snoc _ _ _ _ h]
  have hl := bCells_len p vs h
  rw [List.set_append_right _ _ (by omega), hl, show p.length * 3 + 1 - p.length * 3 = 1 from by omega]
  rfl
theorem nils_snoc (n : Nat) : nils (n + 1) = nils n ++ [.slice none 0 0] := by
  unfold nils; exact List.replicate_succ'
theorem ct_blks (l : List Fi) : (ctB (cutsTo l l.length)).map (fun b => (b.fr, b.to)) = (blks l).map (fun b => (b.fr, b.to)) := by
  unfold ctB cutsTo blks
  rw [List.map_map, List.map_map, List.map_map]
  rfl
theorem blks_fr (l : List Fi) : (blks l).map Bk.fr = heads l := by
  apply List.ext_getElem
  · simp [blks]
  · intro i h1 h2
    simp [blks, h2]
theorem cutsTo_all (l : List Fi) : (cutsTo l l.length).length = (blks l).length := by rw [cutsTo_len, blks_len]; rfl
theorem cut_lead (is : List Ix) (k : Nat) (h : leadB (fis is) k = true) : ctB (cutsTo (fis is) (k + 1)) = ctB (cutsTo (fis is) k) ++ [⟨k, k + 1, []⟩] := by
  rw [cutsTo_lead _ _ h]
  · simp [ctB]
  · by_cases h0 : k = 0
    · subst h0; right; rfl
    · left; omega
theorem cut_same (is : List Ix) (k : Nat) (h : leadB (fis is) k = false) (hk : 0 < k) : ∃ p q, ctB (cutsTo (fis is) k) = p ++ [⟨q, k, []⟩] ∧ ctB (cutsTo (fis is) (k + 1)) = p ++ [⟨q, k + 1, []⟩] := by
  obtain ⟨p, q, h1, h2⟩ := cutsTo_same _ _ h (headsTo_pos _ _ hk)
  exact ⟨ctB p, q, by rw [h1]; simp [ctB], by rw [h2]; simp [ctB]⟩

set_option maxRecDepth 100000 in
set_option maxHeartbeats 16000000 in
theorem rblocks_ok (w : World) (sa : Option Addr) (c : Nat) (is : List Ix) (hin : CodeIn w sa is) (hlen : is.length ≤ 1000) (hargs : ∀ i ∈ is, i.l.length ≤ 1000) :
    Calls Tryz.prog 19 #[.slice sa is.length c] w (BlkPost w (flowCk is) (blks (fis is))) := by
  have HIN := Lib.hid hin
  have HC := Lib.hid (rcheck_ok w sa c is hin hlen hargs)
  have HNU := Lib.hid (fun w1 (r : Fr no w w1) => places_ok w1 sa c is (hin.fr r) hlen hargs)
  have HFL : Hid (flowCk is = 0 → Flows (fis is)) := Lib.hid flowCk_flows
  generalize flowCk is = ck at *
  clear hin hargs
  go_enter Tryz.func19, Tryz.ntmps19
  go_wp2_with fail
  refine HC.out.mono ?_
  rintro e w1 ⟨rfl, r1⟩
  have R1 := Lib.hid r1
  have HNU1 := Lib.hid (HNU.out w1 r1)
  clear r1 HC HNU
  by_cases hj : ck = 0
  case neg =>
    have e1 : (ck != 0) = true := by simpa using hj
    have HJ := Lib.hid hj
    clear hj
    go_wp2_with fail
    go_ret2
    exact BlkPost.bad HJ.out R1.out
  have HF := Lib.hid (HFL.out hj)
  subst hj
  clear HFL
  go_wp2_with fail
  refine HNU1.out.mono ?_
  rintro e w2 ⟨pv, rfl, hp, r2⟩
  obtain ⟨pa, pc, rfl⟩ := owns_shape hp
  have HP := Lib.hid (owns_reads hp)
  have R2 := Lib.hid (R1.out.trans r2)
  clear hp r2 HNU1
  have HLL := Lib.hid (fun w5 (r : Fr no w2 w5) i (hi : i < is.length) => leader_ok w5 sa pa c pc is i (HIN.out.fr (R2.out.trans r)) (HP.out.fr r (by simp)) hlen hi)
  have HCL : Hid (∀ k, k ≤ is.length → (ctB (cutsTo (fis is) k)).length ≤ k) := Lib.hid (fun k hk => by
    unfold ctB
    rw [List.length_map, cutsTo_len]
    unfold headsTo
    refine Nat.le_trans (List.length_filter_le _ _) ?_
    rw [List.length_range]
    exact Nat.le_refl _)
  go_wp2_with fail
  go_loopw [6, 7] (fun x y wr => ∃ k : Nat, k ≤ is.length ∧ y = .int .i64 k ∧ Hid (wr.ownsRow w2.heap.size 44 3 x (ctB (cutsTo (fis is) k)).length (bCells (ctB (cutsTo (fis is) k)) (nils (ctB (cutsTo (fis is) k)).length))) ∧ Hid (Fr no w2 wr)) (fun _ y _ => (is.length - intOf y).toNat)
  case atStart => exact ⟨0, by omega, rfl, Lib.hid (World.ownsRow_nil _ _ _ _), Lib.hid (Fr.refl _ _)⟩
  case round =>
    obtain ⟨k, hk, rfl, hown, hfr⟩ := hrel
    obtain ⟨xa, xc, rfl⟩ := owns_shape hown.out
    have hcl := HCL.out k hk
    by_cases hks : k < is.length
    · have hks' : (k : Int) < is.length := by omega
      have HL1 := Lib.hid (HLL.out wr hfr.out k hks)
      cases hlb : leadB (fis is) k
      · -- it goes on
        have hk0 : 0 < k := by
          apply Classical.byContradiction
          intro h
          obtain rfl : k = 0 := by omega
          rw [leadB_zero] at hlb; cases hlb
        obtain ⟨p, q, e1, e2⟩ := cut_same is k hlb hk0
        have HE2 := Lib.hid e2
        rw [hlb] at HL1
        rw [e1] at hown hcl ⊢
        rw [List.length_append, List.length_singleton] at hown hcl ⊢
        clear hlb e1 e2
        have HOW : Hid (∃ g, xa = some ⟨g, 0, none⟩) := Lib.hid (by
          rcases hown.out.2 with ⟨_, h0⟩ | ⟨g, cap, cur, hv, _⟩
          · omega
          · cases hv; exact ⟨g, rfl⟩)
        obtain ⟨g, rfl⟩ := HOW.out
        go_wp2_with fail
        refine HL1.out.mono ?_
        rintro e w5 ⟨rfl, r5⟩
        have HO5 := Lib.hid (owns_fr hown.out r5 (by simp))
        have F5 := Lib.hid (hfr.out.trans r5)
        have hvl : (nils p.length).length = p.length := by simp [nils]
        have hcc := HO5.out.cellAt (p.length * 3 + 1) (by omega)
        rw [nils_snoc, bCells_snoc _ _ _ _ hvl, List.getElem?_append_right (by rw [bCells_len _ _ hvl]; omega), bCells_len _ _ hvl, show p.length * 3 + 1 - p.length * 3 = 1 from by omega] at hcc
        have cc : w5.cell? ⟨g, p.length * 3 + 1, none⟩ = some (.int .i64 (k : Nat)) := hcc
        have fc : w5.frozen? ⟨g, p.length * 3 + 1, none⟩ = false := HO5.out.frozenAt _
        obtain ⟨hs1, hs2⟩ := HO5.out.stored (p.length * 3 + 1) (.int .i64 ((k + 1 : Nat) : Int))
        rw [nils_snoc, bCells_last p ⟨q, k, []⟩ (nils p.length) (.slice none 0 0) (k + 1) hvl, ← nils_snoc] at hs1
        have HO6 : Hid ((w5.setCell ⟨g, p.length * 3 + 1, none⟩ (.int .i64 ((k : Int) + 1))).ownsRow w2.heap.size 44 3 (.slice (some ⟨g, 0, none⟩) (p.length + 1) xc) (ctB (cutsTo (fis is) (k + 1))).length (bCells (ctB (cutsTo (fis is) (k + 1))) (nils (ctB (cutsTo (fis is) (k + 1))).length))) := Lib.hid (by
          rw [HE2.out, List.length_append, List.length_singleton]
          exact hs1)
        have F6 : Hid (Fr no w2 (w5.setCell ⟨g, p.length * 3 + 1, none⟩ (.int .i64 ((k : Int) + 1)))) := Lib.hid (F5.out.setCell _ _ (.inr (HO5.out.lt g rfl).1))
        have ei : ((p.length + 1 : Nat) : Int) - 1 = p.length := by omega
        have ei' : (p.length : Int) + 1 - 1 = p.length := by omega
        have hpl : (p.length : Int) < (p.length : Int) + 1 := by omega
        clear hs1 hs2 hcc hvl r5 hown hfr HO5
        go_wp2_with fail
        go_roundw
        case rel => exact ⟨k + 1, by omega, by go_num, HO6, F6⟩
        case measure => first | (simp [intOf]; done) | (simp [intOf]; omega)
      · have HE := Lib.hid (cut_lead is k hlb)
        rw [hlb] at HL1
        clear hlb
        generalize ctB (cutsTo (fis is) k) = cb at *
        go_wp2_with fail
        refine HL1.out.mono ?_
        rintro e w5 ⟨rfl, r5⟩
        have HO5 := Lib.hid (owns_fr hown.out r5 (by simp))
        have F5 := Lib.hid (hfr.out.trans r5)
        have hs5 := F5.out.size
        clear r5 hown hfr HL1
        go_wp2_with (at_builtin; (refine wpList_append_at rfl (.tmp 29) _ 39 rfl w2.heap.size 44 (.agg zeroBk) 3 40 Tryz.underlying39 Tryz.infoBk3 rfl (by decide) _ cb.length _ rfl (HO5.out.alloc _) 1 _ (reads_3 w5 _ _ _ _) (three_one _ _ _ _ _) (by unfold maxLen; omega) (by omega) (by simp; omega) ?_); intro ga gc w7 ho7 hg7 hb7)
        have r7 := ((Fr.refl (fun b' => (Value.slice xa cb.length xc).ownBlock = some b') w5).alloc (.cells #[.int .i64 k, .int .i64 ((k : Int) + 1), .slice none 0 0] 44)).trans ((Fr.refl (fun b' => (Value.slice xa cb.length xc).ownBlock = some b') _).grown hg7 (fun k hk => .inl hk))
        have HO7 : Hid (w7.ownsRow w2.heap.size 44 3 (.slice ga (cb.length + 1) gc) (ctB (cutsTo (fis is) (k + 1))).length (bCells (ctB (cutsTo (fis is) (k + 1))) (nils (ctB (cutsTo (fis is) (k + 1))).length))) := Lib.hid (by
          rw [HE.out, List.length_append, List.length_singleton, nils_snoc, bCells_snoc _ _ _ _ (by simp [nils])]
          exact ho7)
        have F7 := Lib.hid (F5.out.trans' r7 (fun b hb _ => (HO5.out.lt b hb).1))
        clear r7 hg7 hb7 ho7 HO5 F5
        go_wp2_with fail
        go_roundw
        case rel => exact ⟨k + 1, by omega, by go_num, HO7, F7⟩
        case measure => first | (simp [intOf]; done) | (simp [intOf]; omega)
    · obtain rfl : k = is.length := by omega
      obtain ⟨m, hm⟩ : ∃ m, m = (blks (fis is)).length := ⟨_, rfl⟩
      obtain ⟨bs, hbs⟩ : ∃ bs, bs = blks (fis is) := ⟨_, rfl⟩
      have HBS := Lib.hid hbs
      have HM : Hid (m = bs.length) := Lib.hid (by rw [hm, hbs])
      have hmm : (ctB (cutsTo (fis is) is.length)).length = m := by
        have := cutsTo_all (fis is)
        rw [fis_len] at this
        rw [hm, ← this]; simp [ctB]
      have hce : bCells (ctB (cutsTo (fis is) is.length)) (nils m) = bCells bs (nils m) := bCells_ext _ _ _ (by
        have := ct_blks (fis is)
        rw [fis_len] at this
        rw [hbs]; exact this)
      rw [hmm] at hown hcl ⊢
      rw [hce] at hown
      have hmp : 0 < m := by
        rw [hm, blks_len]
        have : 0 ∈ heads (fis is) := headsTo_mem.2 ⟨HF.out.pos, heads_zero _⟩
        exact List.length_pos_of_mem this
      clear hmm hce hm hbs
      have HOW : Hid (∃ g, xa = some ⟨g, 0, none⟩) := Lib.hid (by
        rcases hown.out.2 with ⟨_, h0⟩ | ⟨g, cap, cur, hv, _⟩
        · omega
        · cases hv; exact ⟨g, rfl⟩)
      obtain ⟨g, rfl⟩ := HOW.out
      have HOW0 : Hid (wr.ownsRow w2.heap.size 44 3 (.slice (some ⟨g, 0, none⟩) m xc) m (bCells bs ([] ++ nils (m - 0)))) := hown
      have hgw2 : w2.heap.size ≤ g := (hown.out.lt g rfl).1
      have hml : m ≤ is.length := hcl
      have hw2 := R2.out.size
      have F0 := hfr
      clear hown hfr HLL HCL hcl
      go_wp2_with fail
      go_loopw [8] (fun x wr => ∃ (i : Nat) (vd : List Value), i ≤ m ∧ x = .int .i64 i ∧ vd.length = i ∧ Hid (wr.ownsRow w2.heap.size 44 3 (.slice (some ⟨g, 0, none⟩) m xc) m (bCells bs (vd ++ nils (m - i)))) ∧ Hid (Rows2 wr w.heap.size vd ((bs.take i).map Bk.nx)) ∧ Hid (∀ v ∈ vd, ∀ b, v.ownBlock = some b → b ≠ g) ∧ Hid (Fr no w2 wr)) (fun x _ => (m - intOf x).toNat)
      case atStart => exact ⟨0, [], by omega, rfl, rfl, HOW0, Lib.hid (Rows2.nil _ _), Lib.hid (by intro v hv; cases hv), F0⟩
      case round =>
        clear HOW0 F0
        obtain ⟨i, vd, hi, rfl, hvd, hown, hrows, hsep, hfr⟩ := hrel
        by_cases his : i < m
        · have his' : (i : Int) < m := by omega
          have hib : i < bs.length := by rw [← HM.out]; exact his
          have hih : i < (heads (fis is)).length := by rw [← blks_len, ← HBS.out]; exact hib
          have hto : bs[i].to = endOf (fis is) i := by simp [HBS.out, blks]
          have hnx : bs[i].nx = bnx (fis is) (endOf (fis is) i) := by simp [HBS.out, blks]
          obtain ⟨tn, htn⟩ : ∃ tn, endOf (fis is) i = tn + 1 := ⟨endOf (fis is) i - 1, by have := endOf_pos HF.out i hih; omega⟩
          have hep := endOf_pos HF.out i hih
          rw [fis_len, htn] at hep
          have htl : tn < is.length := by omega
          have hvl : (vd ++ nils (m - i)).length = bs.length := by rw [List.length_append, hvd, ← HM.out]; simp [nils]; omega
          have hcc := hown.out.cellAt (i * 3 + 1) (by omega)
          have hnm : nils (m - i) = .slice none 0 0 :: nils (m - (i + 1)) := by
            unfold nils
            rw [show m - i = (m - (i + 1)) + 1 from by omega]
            rfl
          rw [(bCells_at bs _ i bs[i] (.slice none 0 0) (List.getElem?_eq_getElem hib) (by rw [List.getElem?_append_right (by omega), hvd, Nat.sub_self, hnm]; rfl)).2.1, hto, htn] at hcc
          have cc : wr.cell? ⟨g, i * 3 + 1, none⟩ = some (.int .i64 ((tn : Int) + 1)) := hcc
          rw [hnm] at hown
          have HX1 := Lib.hid (rnext1_ok wr sa pa c pc is tn (HIN.out.fr (R2.out.trans hfr.out)) (HP.out.fr hfr.out (by simp)) hlen htl HF.out)
          have HLD : Hid (∀ x ∈ nx (fis is) tn, x ∈ bs.map Bk.fr) := Lib.hid (fun x hx => by
            rw [HBS.out, blks_fr]
            have := lead_of_nx HF.out hih (x := x) (by rw [htn]; exact hx)
            exact this)
          have HSR : Hid ((bs.map Bk.fr).Pairwise (· < ·)) := Lib.hid (by rw [HBS.out, blks_fr]; exact headsTo_sorted _ _)
          have HBX : Hid (bs[i].nx = (nx (fis is) tn).map (idx (bs.map Bk.fr))) := Lib.hid (by
            rw [hnx, htn, HBS.out, blks_fr]; rfl)
          have HTK : Hid (bs.take (i + 1) = bs.take i ++ [bs[i]]) := Lib.hid (List.take_succ_eq_append_getElem hib)
          have hnf := nx_few (fis is) tn
          have ht1 : (tn : Int) + 1 - 1 = tn := by omega
          have HVD := Lib.hid hvd
          generalize nx (fis is) tn = nk at *
          generalize bs[i] = bi at *
          clear hto hnx htn hep hcc hnm hvl hvd
          go_wp2_with fail
          refine HX1.out.mono ?_
          rintro e w5 ⟨u, rfl, hu, r5⟩
          obtain ⟨ua, uc, rfl⟩ := owns_shape hu
          have HU := Lib.hid (owns_reads hu)
          have hgl : g < wr.heap.size := (hown.out.lt g rfl).2
          have HUB : Hid (∀ b, (Value.slice ua nk.length uc).ownBlock = some b → b ≠ g) := Lib.hid (fun b hb => by have := (hu.lt b hb).1; omega)
          have HO5 := Lib.hid (owns_fr hown.out r5 (by simp))
          have HR5 := Lib.hid (hrows.out.fr r5 (fun v hv b hb => by simp))
          have F5 := Lib.hid (hfr.out.trans r5)
          have hg5 : g < w5.heap.size := Nat.lt_of_lt_of_le hgl r5.size
          have hs5 := F5.out.size
          clear hu r5 HX1 cc hown hrows hfr hgl
          go_wp2_with fail
          go_loopw [10] (fun y wr => ∃ (k : Nat) (fv : Value), k ≤ nk.length ∧ y = .int .i64 k ∧ Hid (wr.ownsRow w2.heap.size 44 3 (.slice (some ⟨g, 0, none⟩) m xc) m (bCells bs (vd ++ fv :: nils (m - (i + 1))))) ∧ Hid (wr.ownsRow w5.heap.size 3 1 fv k (ints (nats ((nk.map (idx (bs.map Bk.fr))).take k)))) ∧ Hid (Fr (only [g]) w5 wr)) (fun y _ => (nk.length - intOf y).toNat)
          case atStart => exact ⟨0, _, by omega, rfl, HO5, Lib.hid (World.ownsRow_nil _ _ _ _), Lib.hid (Fr.refl _ _)⟩
          case round =>
            clear HO5
            obtain ⟨k, fv, hk, rfl, hown, hfv, hfr⟩ := hrel
            obtain ⟨fa, fc, rfl⟩ := owns_shape hfv.out
            have hvl : (vd ++ Value.slice fa k fc :: nils (m - (i + 1))).length = bs.length := by rw [List.length_append, HVD.out, ← HM.out]; simp [nils]; omega
            by_cases hks : k < nk.length
            · have hks' : (k : Int) < nk.length := by omega
              obtain ⟨kb, ko, rfl, ck⟩ := (HU.out.fr hfr.out (fun b hb => by have := HUB.out b hb; simpa using this)).at1 (k := k) (u := .int .i64 (nk[k] : Nat)) (ints_at (List.getElem?_eq_getElem hks))
              have HMS : Hid ((nk.map (idx (bs.map Bk.fr))).take (k + 1) = (nk.map (idx (bs.map Bk.fr))).take k ++ [idx (bs.map Bk.fr) nk[k]]) := Lib.hid (by rw [List.take_succ_eq_append_getElem (by simpa using hks)]; simp)
              have HBK := Lib.hid (block_ok wr (some ⟨g, 0, none⟩) xc bs (vd ++ Value.slice fa k fc :: nils (m - (i + 1))) nk[k] hvl (by rw [← HM.out]; exact owns_reads hown.out) (by rw [← HM.out]; omega) HSR.out (HLD.out _ (List.getElem_mem hks)))
              rw [← HM.out] at HBK
              have cn0 := hown.out.cellAt (i * 3 + 2) (by omega)
              have hiv : (vd ++ Value.slice fa k fc :: nils (m - (i + 1)))[i]? = some (.slice fa k fc) := by
                rw [List.getElem?_append_right (by rw [HVD.out]; exact Nat.le_refl _), HVD.out, Nat.sub_self]; rfl
              rw [(bCells_at bs _ i _ (.slice fa k fc) (List.getElem?_eq_getElem hib) hiv).2.2] at cn0
              have HCN := Lib.hid cn0
              have HFN := Lib.hid (hown.out.frozenAt (i * 3 + 2))
              have hsz := hfr.out.size
              generalize idx (bs.map Bk.fr) nk[k] = ix at *
              generalize nk[k] = kx at *
              clear cn0 hiv
              go_wp2_with fail
              refine HBK.out.mono ?_
              rintro e w' ⟨rfl, rfl⟩
              have cn := HCN.out
              clear ck HBK
              go_upto_region 18 with (at_builtin; (refine wpList_append_at rfl (.tmp 77) _ 37 rfl w5.heap.size 3 (.int .i64 0) 1 8 Tryz.underlying37 Tryz.infoInt rfl (by decide) _ k _ rfl (hfv.out.alloc _) 1 _ (reads_one wr _ _) int_one (by unfold maxLen; omega) (by omega) (by simp; omega) ?_); intro ga gc w7 ho7 hg7 hb7; have r7 := ((Fr.refl (fun b => (Value.slice fa k fc).ownBlock = some b) wr).alloc (.cells #[.int .i64 ix] 3)).trans ((Fr.refl (fun b => (Value.slice fa k fc).ownBlock = some b) _).grown hg7 (fun k hk => .inl hk)); have HO7 := Lib.hid (owns_fr hown.out r7 (fun b hb h => by have h1 : g = b := (by simpa [Value.ownBlock] using hb); have := (hfv.out.lt b h).1; omega)); have R7 := Lib.hid (hfr.out.trans' r7 (fun i hi _ => (hfv.out.lt i hi).1)); have e2 : w7.cell? ⟨g, i * 3 + 2, none⟩ = some (.slice fa k fc) := r7.cell (p := ⟨g, i * 3 + 2, none⟩) HCN.out (fun h => by have := (hfv.out.lt g h).1; omega); have f2 : w7.frozen? ⟨g, i * 3 + 2, none⟩ = false := HO7.out.frozenAt (i * 3 + 2); clear r7 hg7 hb7 cn)
              obtain ⟨hs1, -⟩ := HO7.out.stored (i * 3 + 2) (.slice ga (k + 1) gc)
              have hbc := bCells_set bs vd (.slice fa k fc) (.slice ga (k + 1) gc) (nils (m - (i + 1))) hvl
              rw [HVD.out] at hbc
              rw [hbc] at hs1
              have r8 : Fr (only [g]) w7 (w7.setCell ⟨g, i * 3 + 2, none⟩ (.slice ga (k + 1) gc)) := (Fr.refl _ w7).setCell _ _ (.inl (by simp))
              have HO8 := Lib.hid hs1
              have HV8 : Hid ((w7.setCell ⟨g, i * 3 + 2, none⟩ (.slice ga (k + 1) gc)).ownsRow w5.heap.size 3 1 (.slice ga (k + 1) gc) (k + 1) (ints (nats ((nk.map (idx (bs.map Bk.fr))).take (k + 1))))) := Lib.hid (by
                rw [HMS.out, ints_snoc]
                exact owns_fr ho7 r8 (fun b hb => by have := (ho7.lt b hb).1; simp; omega))
              have R8 := Lib.hid (R7.out.trans r8)
              clear r8 ho7 HO7 R7 e2 f2 hs1 hbc hown hfv hfr HCN HFN
              go_wp2_with fail
              go_roundw
              case rel => exact ⟨k + 1, _, by omega, by go_num, HO8, HV8, R8⟩
              case measure => first | (simp [intOf]; done) | (simp [intOf]; omega)
            · obtain rfl : k = nk.length := by omega
              have HVF : Hid (wr.ownsRow w5.heap.size 3 1 (.slice fa nk.length fc) bi.nx.length (ints (nats bi.nx))) := Lib.hid (by
                have := hfv.out
                rw [List.take_of_length_le (by simp), ← HBX.out] at this
                rw [show bi.nx.length = nk.length from by rw [HBX.out, List.length_map]]
                exact this)
              have HR9 : Hid (Rows2 wr w.heap.size (vd ++ [.slice fa nk.length fc]) ((bs.take (i + 1)).map Bk.nx)) := Lib.hid (by
                rw [HTK.out, List.map_append]
                exact (HR5.out.fr hfr.out (fun v hv b hb => by have := hsep.out v hv b hb; simpa using this)).snoc HVF.out (by omega) (fun v hv b hb => (HR5.out.lt v hv b hb).2))
              have HS9 : Hid (∀ v ∈ vd ++ [Value.slice fa nk.length fc], ∀ b, v.ownBlock = some b → b ≠ g) := Lib.hid (fun v hv b hb => by
                rcases List.mem_append.1 hv with hv | hv
                · exact hsep.out v hv b hb
                · rw [List.mem_singleton] at hv; subst hv; have := (HVF.out.lt b hb).1; omega)
              have HO9 : Hid (wr.ownsRow w2.heap.size 44 3 (.slice (some ⟨g, 0, none⟩) m xc) m (bCells bs ((vd ++ [Value.slice fa nk.length fc]) ++ nils (m - (i + 1))))) := Lib.hid (by
                rw [List.append_assoc]; exact hown.out)
              have F9 := Lib.hid (F5.out.trans' hfr.out (fun b hb _ => by simp at hb; omega))
              clear hown hfv hfr HVF HR5 F5 hsep hvl
              go_wp2_with fail
              go_roundw
              case rel => exact ⟨i + 1, vd ++ [.slice fa nk.length fc], by omega, by go_num, by simp [HVD.out], HO9, HR9, HS9, F9⟩
              case measure => first | (simp [intOf]; done) | (simp [intOf]; omega)
        · obtain rfl : i = m := by omega
          have HQ : Hid (BlkOwn wr w.heap.size (.slice (some ⟨g, 0, none⟩) i xc) (blks (fis is))) := Lib.hid (by
            have h1 := hrows.out
            have h2 := hown.out
            rw [List.take_of_length_le (by rw [HM.out]; exact Nat.le_refl _)] at h1
            rw [Nat.sub_self, show nils 0 = [] from rfl, List.append_nil] at h2
            rw [← HBS.out]
            refine ⟨vd, h1, ?_, fun v hv b hb e => hsep.out v hv b hb (by simpa [Value.ownBlock] using e.symm)⟩
            rw [← HM.out]
            exact owns_base h2 (fun k hk => by have := (h2.lt k hk).1; omega))
          have F := Lib.hid (R2.out.trans hfr.out)
          clear hrows hsep hown hfr
          go_wp2_with fail
          go_ret2
          exact BlkPost.good HQ.out F.out

end Go.Proofs.YtgofiaodncemiaaGreat

/- VerifyHolds' walk (law12). -/
import Derived.Test.YtofahdjnejodjaaGreatV8
import Derived.Test.YtofahdjnejodjaaGreatV14
set_option linter.unusedSimpArgs false
set_option linter.unusedVariables false
set_option linter.unusedSectionVars false
set_option linter.unnecessarySimpa false
namespace Go.Proofs.YtofahdjnejodjaaGreat
open Go.RowKit Go.Flow Go.Sure

attribute [local go_sem] Program.isFuncB Program.isSliceB

variable {w w' w'' w0 : World}

theorem region_cut {P : Program} {c : Code} {Q : Exit → Act → World → Prop} {T : List Value} {w : World} (lo n : Nat) (F : World → Prop)
    (h : c.wp P (fun x a w' => x = .normal ∧ (∃ mid : List Value, mid.length = n ∧ (∃ b : Bool, b = false ∧ mid[n - 1]? = some (.bool b)) ∧ a = { tmps := (T.take lo ++ mid ++ T.drop (lo + n)).toArray, defers := [] }) ∧ F w') { tmps := T.toArray, defers := [] } w)
    (k : ∀ (mid : List Value) (w' : World), mid.length = n → mid[n - 1]? = some (.bool false) → F w' → Q .normal { tmps := (T.take lo ++ mid ++ T.drop (lo + n)).toArray, defers := [] } w') : c.wp P Q { tmps := T.toArray, defers := [] } w :=
  Code.wp_mono (fun x a w' ⟨h1, ⟨mid, h2, ⟨b, hb, h3⟩, h4⟩, h5⟩ => by
    subst h1; subst h4; subst hb
    exact k mid w' h2 h3 h5) h
theorem cons_of {l : List Value} {n : Nat} (h : l.length = n + 1) : ∃ x r, l = x :: r ∧ r.length = n := by
  cases l with
  | nil => simp at h
  | cons x r => exact ⟨x, r, rfl, by simpa using h⟩
theorem ins_call {m : Mx} {ix : Ix} (h : insCk m ix = 0) (ho : ix.o = 28) : ¬ (m.f.length : Int) ≤ ix.N ∧ (ix.l.length : Int) = (m.f.getD ix.N.toNat fxNil).p := by
  unfold insCk at h
  split at h
  · omega
  rename_i h1
  split at h
  · omega
  rename_i h2
  exact ⟨fun h3 => h1 ⟨ho, h3⟩, Classical.byContradiction fun h3 => h2 ⟨ho, h3⟩⟩
theorem ins_data {m : Mx} {ix : Ix} (h : insCk m ix = 0) (ho : ix.o = 24) : ¬ (m.d.length : Int) < ix.N := by
  unfold insCk at h
  split at h
  · omega
  split at h
  · omega
  split at h
  · omega
  rename_i h3
  exact fun h4 => h3 ⟨ho, h4⟩

set_option maxRecDepth 100000 in
set_option maxHeartbeats 16000000 in
theorem holds12_ok (w : World) (m : Mx) (da fa : Option Addr) (dc fc : Nat) (hm : ModIn w m da dc fa) (hr : m.Raw) (which : Int) (yv : Value) (ys : List Bool) (hy : Reads w yv 1 ys.length (bools ys)) :
    Calls Tryz.prog 6 #[.agg #[.slice da m.d.length dc, .slice fa m.f.length fc], .int .i64 which, yv] w fun e w' => e = .returned (.bool true) ∧ Fr no w w' := by
  obtain ⟨ya, yc, rfl⟩ := hy.shape
  have HY := Lib.hid hy
  have HM := Lib.hid (heap_new w (.cells #[.slice da m.d.length dc, .slice fa m.f.length fc] 38))
  have r1 := (Fr.refl no w).alloc (.cells #[.slice da m.d.length dc, .slice fa m.f.length fc] 38)
  have R1 := Lib.hid r1
  have HMI := Lib.hid hm
  have HRW := Lib.hid hr
  clear hm hr r1 hy
  go_enter Tryz.func6, Tryz.ntmps6
  go_wp2_with fail
  refine (known12_ok _).mono ?_
  rintro e w2 ⟨rfl, r2⟩
  have R2 := Lib.hid (R1.out.trans r2)
  have HM2 := Lib.hid (r2.heap HM.out (by simp))
  have HLO := Lib.hid (longm_ok _ m da dc fa fc (HMI.out.fr R2.out) HRW.out)
  clear r2 HM R1
  obtain ⟨B0, hB0⟩ : ∃ b, b = w.heap.size := ⟨_, rfl⟩
  rw [← hB0] at HM2 ⊢
  clear hB0
  obtain ⟨m0, m1⟩ := cells2 HM2.out
  go_wp2_with fail
  refine HLO.out.mono ?_
  rintro e w3 ⟨q, rfl, hq, r3⟩
  have R3 := Lib.hid (R2.out.trans r3)
  have HM3 := Lib.hid (r3.heap HM2.out (by simp))
  have HQ := Lib.hid hq
  clear hq r3 HLO HM2 R2 m0 m1
  cases q
  case true =>
    go_wp2_with fail
    go_ret
    exact ⟨rfl, R3.out⟩
  have hd := (HQ.out rfl).1
  have hf6 := (HQ.out rfl).2.1
  have HFW := Lib.hid (HQ.out rfl).2.2
  have HS := Lib.hid (LongM.small HRW.out (HQ.out rfl))
  have HF := Lib.hid (few_small HRW.out (HQ.out rfl).2.2)
  clear HQ HRW
  by_cases hy200 : ys.length ≤ 200
  case neg =>
    have h1 : (200 : Int) < ys.length := by omega
    go_wp2_with fail
    go_ret
    exact ⟨rfl, R3.out⟩
  have h1 : ¬ (200 : Int) < ys.length := by omega
  obtain ⟨m0, m1⟩ := cells2 HM3.out
  have HCK := Lib.hid (vcheck_ok w3 m da fa dc fc (HMI.out.fr R3.out) HS.out HF.out)
  have HGD : Hid ((modFind m).2.2 = 0 → Good m) := Lib.hid modFind_good
  generalize (modFind m).2.2 = z at *
  go_wp2_with fail
  refine HCK.out.mono ?_
  rintro e w4 ⟨rfl, r4⟩
  have R4 := Lib.hid (R3.out.trans r4)
  have HM4 := Lib.hid (r4.heap HM3.out (by simp))
  clear r4 HCK HM3 R3 m0 m1
  by_cases hz : z = 0
  case neg =>
    have e1 : (z != 0) = true := by simpa using hz
    clear hz
    go_wp2_with fail
    go_ret
    exact ⟨rfl, R4.out⟩
  have HG := Lib.hid (HGD.out hz)
  have e1 : (z != 0) = false := by simpa using hz
  have hpos : 0 < m.f.length := by have := (modCk_iff.1 HG.out.ck).2.1; omega
  have hpos' : ((m.f.length : Int) == 0) = false := by rw [beq_eq_false_iff_ne]; omega
  clear hz HGD
  obtain ⟨m0, m1⟩ := cells2 HM4.out
  have HMC := Lib.hid (check_mod w4 m da dc fa fc (HMI.out.fr R4.out) HS.out)
  rw [HG.out.ck] at HMC
  go_wp2_with fail
  refine HMC.out.mono ?_
  rintro e w5 ⟨rfl, r5⟩
  have R5 := Lib.hid (R4.out.trans r5)
  have HM5 := Lib.hid (r5.heap HM4.out (by simp))
  clear r5 HMC HM4 R4 m0 m1 e1
  obtain ⟨m0, m1⟩ := cells2 HM5.out
  obtain ⟨gb, go', gca, gcc, rfl, hg⟩ := HMI.out.fns.fr R5.out 0 hpos
  have hg0 := hg.four.1
  rw [Nat.zero_mul, Nat.add_zero] at hg0
  have hp0 : m.f[0].p = 0 := by
    have h2 := HG.out.p0
    rw [List.getD_eq_getElem?_getD, List.getElem?_eq_getElem hpos, Option.getD_some] at h2
    have h3 := (modCk_fns HG.out.ck).2 _ (List.getElem_mem hpos)
    omega
  rw [hp0] at hg0
  have hpos2 : (0 : Int) < m.f.length := by omega
  clear hg hp0
  go_upto_region 6 with fail
  have HPK := Lib.hid (fun w => pick_det w which m.f.length (by omega) (by omega))
  have ht := pkN_lt which m.f.length (by omega)
  generalize pkN which m.f.length = t at *
  obtain ⟨gb', go2, ca, cc, e0, hi⟩ := HMI.out.fns.fr R5.out t ht
  cases e0
  have AT := Lib.hid hi.cell
  have HC5 := Lib.hid hi.code
  have HGF := Lib.hid (HG.out.fns _ (List.getElem_mem ht))
  have HFS := Lib.hid (HF.out _ (List.getElem_mem ht))
  have HFK := Lib.hid ((modCk_iff.1 HG.out.ck).2.2.2 _ (List.getElem_mem ht))
  have HFE := Lib.hid (HFW.out _ (List.getElem_mem ht))
  generalize m.f[t] = fx at *
  clear hi hg0 HFW
  obtain ⟨fp, fr', far, is⟩ := fx
  unfold Fx.cells at AT
  dsimp only at AT HC5
  have ht' : (t : Int) < m.f.length := by omega
  have MM : Hid (w5.cell? ⟨B0, 1, none⟩ = some (.slice (some ⟨gb, go', none⟩) m.f.length fc)) := Lib.hid m1
  refine Inv.free _ [51, 52, 53, 54, 55, 56, 57, 58, 59, 8] [⟨9, 8, 10, 8, 59, 50, 4⟩] (fun i => [51, 52, 53, 54, 55, 56, 57, 58, 59].getD i 0) (fun i v _ => match i with | 0 => v = .pointer (some ⟨B0, 1, none⟩) | 1 => v = .slice (some ⟨gb, go', none⟩) m.f.length fc | 2 => v = .int .i64 which | 3 => v = .pointer (some ⟨B0, 1, none⟩) | 4 => v = .slice (some ⟨gb, go', none⟩) m.f.length fc | 5 => v = .int .i64 m.f.length | 6 => v = .int .i64 t | 7 => v = .pointer (some ⟨gb, go' + t * 4, none⟩) | 8 => v = .agg #[.int .i64 fp, .int .i64 fr', .int .i64 far, .slice ca is.length cc] | _ => True) (by kernel_rfl) (by kernel_rfl) (by decide) (by kernel_rfl) 229 rfl (by decide) ?_ ?_ ?_ ?_ ?_ ?_ ?_ ?_
  · exact fun i v w1 w2 S _ h _ _ => h
  · intro p hp
    simp only [List.mem_cons, List.not_mem_nil, or_false] at hp
    rcases hp with rfl
    · exact ⟨_, rfl, rfl, rfl⟩
  · intro p hp
    simp only [List.mem_cons, List.not_mem_nil, or_false] at hp
    rcases hp with rfl
    · exact ⟨_, rfl, rfl, rfl, ⟨⟨9, .data⟩, by simp, rfl, rfl⟩, ⟨⟨8, .data⟩, by simp, rfl, rfl⟩⟩
  · intro p hp
    simp only [List.mem_cons, List.not_mem_nil, or_false] at hp
    rcases hp with rfl
    · exact ⟨.agg zeroFn, fun w => (by kernel_rfl), rfl⟩
  · intro p hp
    simp only [List.mem_cons, List.not_mem_nil, or_false] at hp
    rcases hp with rfl
    · kernel_rfl
  · intro p hp
    simp only [List.mem_cons, List.not_mem_nil, or_false] at hp
    subst hp
    intro u w1 hu; exact ⟨_, hu, rfl, by simp [Value.oneCell']⟩
  · skip
    intro i o ho hs x dn wq rq hdep hV hnd hun hcl
    have hlt := (List.getElem?_eq_some_iff.1 ho).1
    simp only [List.length_cons, List.length_nil] at hlt
    obtain rfl | rfl | rfl | rfl | rfl | rfl | rfl | rfl | rfl | rfl | rfl : i = 0 ∨ i = 1 ∨ i = 2 ∨ i = 3 ∨ i = 4 ∨ i = 5 ∨ i = 6 ∨ i = 7 ∨ i = 8 ∨ i = 9 ∨ i = 10 := by omega
    all_goals cases ho
    all_goals try (exact absurd hs (by decide))
    all_goals (unfold Inv.over; simp only [List.foldl_cons, List.foldl_nil, List.setIfInBounds_toArray, List.set_cons_zero, List.set_cons_succ])
    · skip
      refine Inv.Step.value (v := .pointer (some ⟨B0, 1, none⟩)) ?_ ⟨_, rfl, rfl, Fr.refl _ _⟩
      go_simp
    · have g1 := rq.cell MM.out (by simp)
      have h0 : x 51 = .pointer (some ⟨B0, 1, none⟩) := hV 0 (hdep ⟨0, .data⟩ (by simp) rfl) rfl
      refine Inv.Step.value (v := .slice (some ⟨gb, go', none⟩) m.f.length fc) ?_ ⟨_, rfl, rfl, Fr.refl _ _⟩
      go_simp
    · skip
      refine Inv.Step.value (v := .int .i64 which) ?_ ⟨_, rfl, rfl, Fr.refl _ _⟩
      go_simp
    · skip
      refine Inv.Step.value (v := .pointer (some ⟨B0, 1, none⟩)) ?_ ⟨_, rfl, rfl, Fr.refl _ _⟩
      go_simp
    · have g1 := rq.cell MM.out (by simp)
      have h3 : x 54 = .pointer (some ⟨B0, 1, none⟩) := hV 3 (hdep ⟨3, .data⟩ (by simp) rfl) rfl
      refine Inv.Step.value (v := .slice (some ⟨gb, go', none⟩) m.f.length fc) ?_ ⟨_, rfl, rfl, Fr.refl _ _⟩
      go_simp
    · skip
      have h4 : x 55 = .slice (some ⟨gb, go', none⟩) m.f.length fc := hV 4 (hdep ⟨4, .data⟩ (by simp) rfl) rfl
      refine Inv.Step.value (v := .int .i64 m.f.length) ?_ ⟨_, rfl, rfl, Fr.refl _ _⟩
      go_simp
    · skip
      have h2 : x 53 = .int .i64 which := hV 2 (hdep ⟨2, .data⟩ (by simp) rfl) rfl
      have h5 : x 56 = .int .i64 m.f.length := hV 5 (hdep ⟨5, .data⟩ (by simp) rfl) rfl
      refine Inv.Step.call2 _ _ _ _ rfl (fun _ _ => rfl) _ _ h2 h5 ?_
      refine (HPK.out wq).mono ?_
      rintro e w2 ⟨rfl, rfl⟩
      exact ⟨_, rfl, rfl, Fr.refl _ _⟩
    · skip
      have h1' : x 52 = .slice (some ⟨gb, go', none⟩) m.f.length fc := hV 1 (hdep ⟨1, .data⟩ (by simp) rfl) rfl
      have h6 : x 57 = .int .i64 t := hV 6 (hdep ⟨6, .data⟩ (by simp) rfl) rfl
      refine Inv.Step.value (v := .pointer (some ⟨gb, go' + t * 4, none⟩)) ?_ ⟨_, rfl, rfl, Fr.refl _ _⟩
      go_simp
    · skip
      have h7 : x 58 = .pointer (some ⟨gb, go' + t * 4, none⟩) := hV 7 (hdep ⟨7, .data⟩ (by simp) rfl) rfl
      exact Inv.Step.load_in _ _ rfl _ _ h7 _ _ (AT.out.fr rq) Tryz.underlying50 rfl (by rw [Tryz.infoFunc]; rfl) ⟨_, rfl, rfl, Fr.refl _ _⟩
  · skip
    intro x wq rq hV hvar hne
    unfold Inv.over
    simp only [List.foldl_cons, List.foldl_nil, List.setIfInBounds_toArray, List.set_cons_zero, List.set_cons_succ]
    obtain ⟨b8, c8, y8, -, hb8, v8⟩ := hvar ⟨9, 8, 10, 8, 59, 50, 4⟩ (by simp)
    have h9 : x 59 = .agg #[.int .i64 fp, .int .i64 fr', .int .i64 far, .slice ca is.length cc] := hV 8 (by decide) rfl
    dsimp only at y8 v8 hb8
    rw [h9] at v8
    cases v8
    rw [y8]
    have B8 := Lib.hid hb8
    have R6 := Lib.hid (R5.out.trans rq)
    have HM6 := Lib.hid (rq.heap HM5.out (by simp))
    have HC6 := Lib.hid (HC5.out.fr rq)
    clear y8 hb8 h9 hV hvar hne rq
    generalize x 51 = y51
    generalize x 52 = y52
    generalize x 53 = y53
    generalize x 54 = y54
    generalize x 55 = y55
    generalize x 56 = y56
    generalize x 57 = y57
    generalize x 58 = y58
    generalize x 59 = y59
    clear x m0 m1 MM AT HC5 HM5 R5 HPK
    obtain ⟨f0, f1, f2, f3⟩ := cells4 B8.out
    have hn60 : is.length ≤ 60 := HFE.out.1
    have HNX := Lib.hid (fnext_ok wq ca cc is HC6.out (by omega) HFS.out.args HFS.out.rng)
    rw [HGF.out.flow] at HNX
    go_wp2_with fail
    refine HNX.out.mono ?_
    rintro e w7 ⟨nv, rfl, -, hgood, r7⟩
    have HN7 := Lib.hid (hgood rfl).nx
    have B87 := Lib.hid (r7.heap B8.out (by simp))
    have HM7 := Lib.hid (r7.heap HM6.out (by simp))
    have HC7 := Lib.hid (HC6.out.fr r7)
    have R7 := Lib.hid (R6.out.trans r7)
    have hsh : ∃ a c', nv = .slice a is.length c' := by
      obtain ⟨vs, h1, h2⟩ := HN7.out
      obtain ⟨a, c', rfl⟩ := h1.shape
      exact ⟨a, c', by rw [nxs_len]⟩
    obtain ⟨na, nc, rfl⟩ := hsh
    have en : ((is.length : Int) != is.length) = false := by simp
    clear hgood r7 HNX B8 HM6 HC6 R6 f0 f1 f2 f3
    obtain ⟨f0, f1, f2, f3⟩ := cells4 B87.out
    go_upto_region 11 with ((refine wpList_make_any rfl (.const (.int .i64 64)) (.const (.int .i64 64)) 52 rfl w7.heap.size 4 (.bool false) 1 Tryz.underlying52 Tryz.infoBool rfl .i64 .i64 64 64 64 rfl rfl rfl rfl (by omega) (by unfold maxLen; omega) (Nat.le_refl _) ?_); intro w8 ho8 hg8)
    have HG8 : Hid (w8.heap[w7.heap.size]? = some (.cells (bools (List.replicate 64 false)).toArray 4 (0, 0))) := Lib.hid (by rw [bools_rep]; exact owns_full ho8)
    have q8 := (Fr.refl no w7).grown hg8 (by intro k hk; cases hk)
    obtain ⟨og, hog⟩ : ∃ g, g = w7.heap.size := ⟨_, rfl⟩
    have HOG := Lib.hid hog
    rw [← hog] at HG8 ⊢
    have F8 := Lib.hid q8
    obtain ⟨hp0, hp8⟩ : 0 ≤ fp ∧ fp ≤ 8 := by
      have := (fnCk_iff.1 HFK.out).1
      unfold numBad at this
      simp at this
      omega
    have hreg : fr' ≤ 64 := by
      have := (fnCk_iff.1 HFK.out).1
      unfold numBad at this
      simp at this
      omega
    obtain ⟨pn, rfl⟩ : ∃ pn : Nat, fp = pn := ⟨fp.toNat, by omega⟩
    clear ho8 hg8 q8 hog f0 f1 f2 f3 en
    go_wp2_with fail
    go_loopw [12] (fun x wr => ∃ (r : Nat) (wl : List Bool), x = .int .i64 r ∧ r ≤ pn ∧ Hid (wl.length = 64 ∧ ∀ j, j < r → wl[j]? = some true) ∧ Hid (wr.heap[og]? = some (.cells (bools wl).toArray 4 (0, 0))) ∧ Hid (Fr no w7 wr)) (fun x _ => (pn - intOf x).toNat)
    case atStart => exact ⟨0, _, rfl, by omega, Lib.hid ⟨by simp, fun j hj => by omega⟩, HG8, F8⟩
    case round =>
      clear HG8 F8
      obtain ⟨r, wl, rfl, hrp, hwl, HG8, F8⟩ := hrel
      obtain ⟨f0, f1, f2, f3⟩ := cells4 (F8.out.heap B87.out (by simp))
      by_cases hrn : r < pn
      · have hrn' : (r : Int) < pn := by omega
        have hr64 : (r : Int) < 64 := by omega
        have hrl : r < wl.length := by rw [hwl.out.1]; omega
        have cg : wr.cell? ⟨og, r, none⟩ = some (.bool wl[r]) := cell_of_heap HG8.out (by simp [bools, hrl])
        have fg : wr.frozen? ⟨og, r, none⟩ = false := frozen_of_heap HG8.out
        have HG9 : Hid ((wr.setCell ⟨og, r, none⟩ (.bool true)).heap[og]? = some (.cells (bools (wl.set r true)).toArray 4 (0, 0))) := Lib.hid (by rw [heap_setCell HG8.out, bools_setA])
        have F9 : Hid (Fr no w7 (wr.setCell ⟨og, r, none⟩ (.bool true))) := Lib.hid (F8.out.setCell _ _ (.inr (by have := HOG.out; simp; omega)))
        have HWN : Hid ((wl.set r true).length = 64 ∧ ∀ j, j < r + 1 → (wl.set r true)[j]? = some true) := Lib.hid ⟨by rw [List.length_set]; exact hwl.out.1, fun j hj => by
          rw [List.getElem?_set]
          by_cases e : r = j
          · rw [if_pos e, if_pos hrl]
          · rw [if_neg e]
            exact hwl.out.2 j (by omega)⟩
        generalize wl[r] = ob at *
        clear hwl hrl HG8 F8
        go_wp2_with fail
        go_roundw
        case rel => exact ⟨r + 1, _, by go_num, by omega, HWN, HG9, F9⟩
        case measure => first | (simp [intOf]; done) | (simp [intOf]; omega)
      · obtain rfl : r = pn := by omega
        have HPOS : Hid (0 < is.length) := Lib.hid (by have := (flowCk_flows HGF.out.flow).pos; rwa [fis_len] at this)
        have HW0 : Hid (WInv is.length r (nx (fis is)) (wrN is) 0 wl) := Lib.hid (WInv.start HPOS.out hwl.out.1 (fun j hj => .inl (hwl.out.2 j hj)))
        have HYB := Lib.hid (HY.out.fr R7.out (by simp))
        have HNL : Hid (∀ k x, x ∈ nx (fis is) k → x < is.length) := Lib.hid (fun k x hx => by have := nx_lt (flowCk_flows HGF.out.flow) hx; rwa [fis_len] at this)
        obtain ⟨w9, hw9⟩ : ∃ x, x = wr := ⟨_, rfl⟩
        subst hw9
        clear hwl hrn
        go_wp2_with fail
        clear f0 f1 f2 f3
        go_loopw [13, 14] (fun x y wr => ∃ (k s : Nat) (wl : List Bool), x = .int .i64 k ∧ y = .int .i64 s ∧ s ≤ ys.length ∧ Hid (WInv is.length r (nx (fis is)) (wrN is) k wl) ∧ Hid (wr.heap[og]? = some (.cells (bools wl).toArray 4 (0, 0))) ∧ Hid (Fr no w7 wr)) (fun _ y _ => (ys.length - intOf y).toNat)
        case atStart => exact ⟨0, 0, wl, rfl, rfl, by omega, HW0, HG8, F8⟩
        case round =>
          clear HW0 HG8 F8
          obtain ⟨k, s, wl, rfl, rfl, hs0, HW, HG, hfr⟩ := hrel
          by_cases hse : s = ys.length
          case pos =>
            subst hse
            go_wp2_with fail
            go_ret
            exact ⟨rfl, R7.out.trans hfr.out⟩
          have hs : s < ys.length := by omega
          have hs' : (s : Int) < ys.length := by omega
          have hk := HW.out.lt
          have hk' : (k : Int) < is.length := by omega
          obtain ⟨cb, co, u, rfl, hi⟩ := HC7.out.fr hfr.out k hk
          have hck : ckIn is[k] fr' far = 0 := (fnCk_iff.1 HFK.out).2.2 _ (List.getElem_mem hk)
          have hins : insCk m is[k] = 0 := HGF.out.ins _ (List.getElem_mem hk)
          have hargs : is[k].l.length ≤ 20 := HFE.out.2 _ (List.getElem_mem hk)
          obtain ⟨ix, hix⟩ : ∃ x, x = is[k] := ⟨_, rfl⟩
          have HIX : Hid (is[k]? = some ix) := Lib.hid (by rw [hix]; exact List.getElem?_eq_getElem hk)
          have HWR : Hid (wrN is k = wrI ix) := Lib.hid (by rw [wrN_at is k hk, hix])
          rw [← hix] at hi hck hins hargs
          obtain ⟨ua, uc, rfl⟩ := hi.args.shape
          obtain ⟨d0, d1, d2, d3, d4, d5⟩ := hi.six
          have HAR := Lib.hid hi.args
          have HRS : Hid (∀ y ∈ readsI ix, 0 ≤ y ∧ y < fr' ∧ wl[y.toNat]? = some true) := Lib.hid (fun y hy => by
            have h1 := reads_in hck y hy
            exact ⟨h1.1, h1.2, HW.out.read (by omega) (by
              have := sure_reads HGF.out.unset HIX.out hy h1.1 (by omega)
              simpa using this)⟩)
          have HWI : Hid (wrI ix = -1 ∨ (0 ≤ wrI ix ∧ wrI ix < fr')) := Lib.hid (writes_in hck)
          have HCL : Hid (ix.o = 28 → ∃ zN : Nat, ix.N = zN ∧ zN < m.f.length ∧ wr.cell? ⟨gb, go' + zN * 4, none⟩ = some (.int .i64 ix.l.length)) := Lib.hid (fun ho => by
            have h2 := (call_N ((joinCk_zero _ (flowCk_join HGF.out.flow)).1 _ (List.mem_of_getElem? HIX.out)) ho).1
            obtain ⟨h3, h4⟩ := ins_call hins ho
            have h5 : ix.N.toNat < m.f.length := by omega
            obtain ⟨gb2, go3, _, _, e0, hi2⟩ := HMI.out.fns.fr (R7.out.trans hfr.out) _ h5
            cases e0
            refine ⟨ix.N.toNat, by omega, h5, ?_⟩
            rw [List.getD_eq_getElem?_getD, List.getElem?_eq_getElem h5, Option.getD_some] at h4
            rw [h4]
            exact hi2.four.1)
          have HDT : Hid (ix.o = 24 → ¬ (m.d.length : Int) < ix.N) := Lib.hid (fun ho => ins_data hins ho)
          have HCX : Hid (checkOf ix.o ix.A ix.B ix.C ix.N ix.l fr' far = 0) := Lib.hid hck
          clear hi hix hck hins
          have HRL : Hid ((readsI ix).length ≤ 100) := Lib.hid (by
            have := (fields_few ix.o ix.A ix.B ix.C).2
            unfold readsI readsOf
            rw [List.length_append]
            split
            · omega
            · simp; omega)
          have HRE := Lib.hid (fun w2 (q : Fr no wr w2) => reads_ok w2 ix.o ix.A ix.B ix.C ix.N (.slice ua ix.l.length uc) ix.l (HAR.out.fr q (by simp)) (by omega))
          rw [show readsOf ix.o ix.A ix.B ix.C ix.l = readsI ix from rfl] at HRE
          have HWT := Lib.hid (fun w2 => writes_ok w2 ix.o ix.A ix.B ix.C ix.N (.slice ua ix.l.length uc))
          rw [show (fieldsOf [ix.A, ix.B, ix.C] (sh ix.o)).2.2 = wrI ix from rfl] at HWT
          have HCH := Lib.hid (fun w2 (q : Fr no wr w2) => check_ok w2 ix.o ix.A ix.B ix.C ix.N fr' far (.slice ua ix.l.length uc) ix.l (HAR.out.fr q (by simp)) (by omega))
          rw [HCX.out] at HCH
          generalize readsI ix = rs at *
          generalize wrI ix = wi at *
          obtain ⟨io, iA, iB, iC, iN, il⟩ := ix
          unfold insV at HRE HWT HCH
          dsimp only at d0 d1 d2 d3 d4 d5 HRE HWT HCH HCL HDT HAR
          obtain ⟨f0, f1, f2, f3⟩ := cells4 (hfr.out.heap B87.out (by simp))
          have q10 := (Fr.refl no wr).alloc (.cells #[.int .i64 io, .int .i64 iA, .int .i64 iB, .int .i64 iC, .int .i64 iN, .slice ua il.length uc] 47)
          have HI10 := Lib.hid (heap_new wr (.cells #[.int .i64 io, .int .i64 iA, .int .i64 iB, .int .i64 iC, .int .i64 iN, .slice ua il.length uc] 47))
          have F10 := Lib.hid (hfr.out.trans q10)
          have G10 := Lib.hid (q10.heap HG.out (by simp))
          have Q10 := Lib.hid q10
          go_upto_region 20 with fail
          clear d0 d1 d2 d3 d4 d5 f0 f1 f2 f3 q10
          have QD := Lib.hid ((Fr.refl no (wr.alloc (.cells #[.int .i64 io, .int .i64 iA, .int .i64 iB, .int .i64 iC, .int .i64 iN, .slice ua il.length uc] 47))).drew)
          have HI11 := Lib.hid (QD.out.heap HI10.out (by simp))
          have F11 := Lib.hid (F10.out.trans QD.out)
          have G11 := Lib.hid (QD.out.heap G10.out (by simp))
          have Q11 := Lib.hid (Q10.out.trans QD.out)
          have HCH11 := Lib.hid (HCH.out _ Q11.out)
          have AI : Hid (At (wr.alloc (.cells #[.int .i64 io, .int .i64 iA, .int .i64 iB, .int .i64 iC, .int .i64 iN, .slice ua il.length uc] 47)).drew wr.heap.size 0 [.int .i64 io, .int .i64 iA, .int .i64 iB, .int .i64 iC, .int .i64 iN, .slice ua il.length uc]) := Lib.hid (At.of_heap HI11.out)
          obtain ⟨j0, j1, j2, j3, j4, j5⟩ := cells6 HI11.out
          obtain ⟨f0, f1, f2, f3⟩ := cells4 (F11.out.heap B87.out (by simp))
          obtain ⟨m0, m1⟩ := cells2 (F11.out.heap HM7.out (by simp))
          clear HI10 F10 G10 Q10 QD HCH HG
          refine region_cut 101 46 (fun w' => Hid (w'.heap[wr.heap.size]? = some (.cells #[.int .i64 io, .int .i64 iA, .int .i64 iB, .int .i64 iC, .int .i64 iN, .slice ua il.length uc] 47 (0, 0))) ∧ Hid (Fr no w7 w') ∧ Hid (w'.heap[og]? = some (.cells (bools wl).toArray 4 (0, 0))) ∧ Hid (Fr no wr w')) ?_ ?_
          · by_cases ho : io = 28
            · have e28 : (io == 28) = true := by simpa using ho
              obtain ⟨zN, hzN, hzl, hzc⟩ := HCL.out ho
              subst hzN
              have e24 : (io == 24) = false := by rw [ho]; rfl
              have hz1 : ¬ (zN : Int) ≥ m.f.length := by omega
              have hz2 : (zN : Int) < m.f.length := by omega
              have hzz : ((il.length : Int) != il.length) = false := by simp
              have hzd := Q11.out.cell hzc (by simp)
              clear hzc ho HCL HDT

              refine Lex.region [5] [46] (by kernel_rfl) (by kernel_rfl) ?_
              refine Lex.opens (fun w' => At w' wr.heap.size 0 [.int .i64 io, .int .i64 iA, .int .i64 iB, .int .i64 iC, .int .i64 (zN : Int), .slice ua il.length uc] ∧ w'.cell? ⟨wr.heap.size, 0, none⟩ = some (.int .i64 io) ∧ w'.cell? ⟨wr.heap.size, 4, none⟩ = some (.int .i64 (zN : Int)) ∧ w'.cell? ⟨wr.heap.size, 5, none⟩ = some (.slice ua il.length uc) ∧ w'.cell? ⟨b8, 1, none⟩ = some (.int .i64 fr') ∧ w'.cell? ⟨b8, 2, none⟩ = some (.int .i64 far) ∧ w'.cell? ⟨B0, 0, none⟩ = some (.slice da m.d.length dc) ∧ w'.cell? ⟨B0, 1, none⟩ = some (.slice (some ⟨gb, go', none⟩) m.f.length fc) ∧ w'.cell? ⟨gb, go' + zN * 4, none⟩ = some (.int .i64 il.length)) (⟨AI.out, j0, j4, j5, f1, f2, m0, m1, hzd⟩) ?_
              repeat (first
                | (refine Lex.skips (by rfl) ?_; (try simp only [Act.put, List.setIfInBounds_toArray, List.set_cons_zero, List.set_cons_succ]))
                | (refine Lex.into (by rfl) (by rfl) _ _ rfl _ _ rfl _ _ (fun w' h => h.1) Tryz.underlying47 rfl (by rw [Tryz.infoIns]; rfl) ?_; (try simp only [Act.put, List.setIfInBounds_toArray, List.set_cons_zero, List.set_cons_succ]))
                | (refine Lex.quiet (v := ?_) (by rfl) (by rfl) ?_ ?_; rotate_left; (focus (intro w' hS'; go_simp; try rfl)); (try simp only [Act.put, List.setIfInBounds_toArray, List.set_cons_zero, List.set_cons_succ])))
              refine Lex.loud (by rfl) (by rfl) ?_
              intro K' hK'
              go_simp
              refine HCH11.out.mono ?_
              rintro e w12 ⟨rfl, r12⟩
              refine hK' _ _ (⟨AI.out.fr r12, r12.cell j0 (by simp), r12.cell j4 (by simp), r12.cell j5 (by simp), r12.cell f1 (by simp), r12.cell f2 (by simp), r12.cell m0 (by simp), r12.cell m1 (by simp), r12.cell hzd (by simp)⟩) ?_
              clear hK'
              try simp only [Act.put, List.setIfInBounds_toArray, List.set_cons_zero, List.set_cons_succ]
              have HI12 := Lib.hid (r12.heap HI11.out (by simp))
              have F12 := Lib.hid (F11.out.trans r12)
              have G12 := Lib.hid (r12.heap G11.out (by simp))
              have Q12 := Lib.hid (Q11.out.trans r12)
              clear r12 j0 j1 j2 j3 j4 j5 f0 f1 f2 f3 m0 m1 HI11 F11 G11 Q11 HCH11 AI
              repeat (first
                | (refine Lex.skips (by rfl) ?_; (try simp only [Act.put, List.setIfInBounds_toArray, List.set_cons_zero, List.set_cons_succ]))
                | (refine Lex.quiet (v := ?_) (by rfl) (by rfl) ?_ ?_; rotate_left; (focus (intro w' hS'; go_simp; try rfl)); (try simp only [Act.put, List.setIfInBounds_toArray, List.set_cons_zero, List.set_cons_succ])))
              refine Lex.done ?_
              refine Lex.ends ?_
              refine ⟨rfl, ⟨[_, _, _, _, _, _, _, _, _, _, _, _, _, _, _, _, _, _, _, _, _, _, _, _, _, _, _, _, _, _, _, _, _, _, _, _, _, _, _, _, _, _, _, _, _, _], rfl, ⟨_, ?_, rfl⟩, rfl⟩, HI12, F12, G12, Q12⟩
              first | rfl | (simp; done) | (simp; omega)
            by_cases ho4 : io = 24
            · have e28 : (io == 28) = false := by simpa using ho
              have e24 : (io == 24) = true := by simpa using ho4
              have hdn : ¬ iN > (m.d.length : Int) := HDT.out ho4
              clear ho ho4 HCL HDT

              refine Lex.region [5] [46] (by kernel_rfl) (by kernel_rfl) ?_
              refine Lex.opens (fun w' => At w' wr.heap.size 0 [.int .i64 io, .int .i64 iA, .int .i64 iB, .int .i64 iC, .int .i64 iN, .slice ua il.length uc] ∧ w'.cell? ⟨wr.heap.size, 0, none⟩ = some (.int .i64 io) ∧ w'.cell? ⟨wr.heap.size, 4, none⟩ = some (.int .i64 iN) ∧ w'.cell? ⟨wr.heap.size, 5, none⟩ = some (.slice ua il.length uc) ∧ w'.cell? ⟨b8, 1, none⟩ = some (.int .i64 fr') ∧ w'.cell? ⟨b8, 2, none⟩ = some (.int .i64 far) ∧ w'.cell? ⟨B0, 0, none⟩ = some (.slice da m.d.length dc) ∧ w'.cell? ⟨B0, 1, none⟩ = some (.slice (some ⟨gb, go', none⟩) m.f.length fc)) (⟨AI.out, j0, j4, j5, f1, f2, m0, m1⟩) ?_
              repeat (first
                | (refine Lex.skips (by rfl) ?_; (try simp only [Act.put, List.setIfInBounds_toArray, List.set_cons_zero, List.set_cons_succ]))
                | (refine Lex.into (by rfl) (by rfl) _ _ rfl _ _ rfl _ _ (fun w' h => h.1) Tryz.underlying47 rfl (by rw [Tryz.infoIns]; rfl) ?_; (try simp only [Act.put, List.setIfInBounds_toArray, List.set_cons_zero, List.set_cons_succ]))
                | (refine Lex.quiet (v := ?_) (by rfl) (by rfl) ?_ ?_; rotate_left; (focus (intro w' hS'; go_simp; try rfl)); (try simp only [Act.put, List.setIfInBounds_toArray, List.set_cons_zero, List.set_cons_succ])))
              refine Lex.loud (by rfl) (by rfl) ?_
              intro K' hK'
              go_simp
              refine HCH11.out.mono ?_
              rintro e w12 ⟨rfl, r12⟩
              refine hK' _ _ (⟨AI.out.fr r12, r12.cell j0 (by simp), r12.cell j4 (by simp), r12.cell j5 (by simp), r12.cell f1 (by simp), r12.cell f2 (by simp), r12.cell m0 (by simp), r12.cell m1 (by simp)⟩) ?_
              clear hK'
              try simp only [Act.put, List.setIfInBounds_toArray, List.set_cons_zero, List.set_cons_succ]
              have HI12 := Lib.hid (r12.heap HI11.out (by simp))
              have F12 := Lib.hid (F11.out.trans r12)
              have G12 := Lib.hid (r12.heap G11.out (by simp))
              have Q12 := Lib.hid (Q11.out.trans r12)
              clear r12 j0 j1 j2 j3 j4 j5 f0 f1 f2 f3 m0 m1 HI11 F11 G11 Q11 HCH11 AI
              repeat (first
                | (refine Lex.skips (by rfl) ?_; (try simp only [Act.put, List.setIfInBounds_toArray, List.set_cons_zero, List.set_cons_succ]))
                | (refine Lex.quiet (v := ?_) (by rfl) (by rfl) ?_ ?_; rotate_left; (focus (intro w' hS'; go_simp; try rfl)); (try simp only [Act.put, List.setIfInBounds_toArray, List.set_cons_zero, List.set_cons_succ])))
              refine Lex.done ?_
              refine Lex.ends ?_
              refine ⟨rfl, ⟨[_, _, _, _, _, _, _, _, _, _, _, _, _, _, _, _, _, _, _, _, _, _, _, _, _, _, _, _, _, _, _, _, _, _, _, _, _, _, _, _, _, _, _, _, _, _], rfl, ⟨_, ?_, rfl⟩, rfl⟩, HI12, F12, G12, Q12⟩
              first | rfl | (simp; done) | (simp; omega)
            · have e28 : (io == 28) = false := by simpa using ho
              have e24 : (io == 24) = false := by simpa using ho4
              clear ho ho4 HCL HDT

              refine Lex.region [5] [46] (by kernel_rfl) (by kernel_rfl) ?_
              refine Lex.opens (fun w' => At w' wr.heap.size 0 [.int .i64 io, .int .i64 iA, .int .i64 iB, .int .i64 iC, .int .i64 iN, .slice ua il.length uc] ∧ w'.cell? ⟨wr.heap.size, 0, none⟩ = some (.int .i64 io) ∧ w'.cell? ⟨wr.heap.size, 4, none⟩ = some (.int .i64 iN) ∧ w'.cell? ⟨wr.heap.size, 5, none⟩ = some (.slice ua il.length uc) ∧ w'.cell? ⟨b8, 1, none⟩ = some (.int .i64 fr') ∧ w'.cell? ⟨b8, 2, none⟩ = some (.int .i64 far) ∧ w'.cell? ⟨B0, 0, none⟩ = some (.slice da m.d.length dc) ∧ w'.cell? ⟨B0, 1, none⟩ = some (.slice (some ⟨gb, go', none⟩) m.f.length fc)) (⟨AI.out, j0, j4, j5, f1, f2, m0, m1⟩) ?_
              repeat (first
                | (refine Lex.skips (by rfl) ?_; (try simp only [Act.put, List.setIfInBounds_toArray, List.set_cons_zero, List.set_cons_succ]))
                | (refine Lex.into (by rfl) (by rfl) _ _ rfl _ _ rfl _ _ (fun w' h => h.1) Tryz.underlying47 rfl (by rw [Tryz.infoIns]; rfl) ?_; (try simp only [Act.put, List.setIfInBounds_toArray, List.set_cons_zero, List.set_cons_succ]))
                | (refine Lex.quiet (v := ?_) (by rfl) (by rfl) ?_ ?_; rotate_left; (focus (intro w' hS'; go_simp; try rfl)); (try simp only [Act.put, List.setIfInBounds_toArray, List.set_cons_zero, List.set_cons_succ])))
              refine Lex.loud (by rfl) (by rfl) ?_
              intro K' hK'
              go_simp
              refine HCH11.out.mono ?_
              rintro e w12 ⟨rfl, r12⟩
              refine hK' _ _ (⟨AI.out.fr r12, r12.cell j0 (by simp), r12.cell j4 (by simp), r12.cell j5 (by simp), r12.cell f1 (by simp), r12.cell f2 (by simp), r12.cell m0 (by simp), r12.cell m1 (by simp)⟩) ?_
              clear hK'
              try simp only [Act.put, List.setIfInBounds_toArray, List.set_cons_zero, List.set_cons_succ]
              have HI12 := Lib.hid (r12.heap HI11.out (by simp))
              have F12 := Lib.hid (F11.out.trans r12)
              have G12 := Lib.hid (r12.heap G11.out (by simp))
              have Q12 := Lib.hid (Q11.out.trans r12)
              clear r12 j0 j1 j2 j3 j4 j5 f0 f1 f2 f3 m0 m1 HI11 F11 G11 Q11 HCH11 AI
              repeat (first
                | (refine Lex.skips (by rfl) ?_; (try simp only [Act.put, List.setIfInBounds_toArray, List.set_cons_zero, List.set_cons_succ]))
                | (refine Lex.quiet (v := ?_) (by rfl) (by rfl) ?_ ?_; rotate_left; (focus (intro w' hS'; go_simp; try rfl)); (try simp only [Act.put, List.setIfInBounds_toArray, List.set_cons_zero, List.set_cons_succ])))
              refine Lex.done ?_
              refine Lex.ends ?_
              refine ⟨rfl, ⟨[_, _, _, _, _, _, _, _, _, _, _, _, _, _, _, _, _, _, _, _, _, _, _, _, _, _, _, _, _, _, _, _, _, _, _, _, _, _, _, _, _, _, _, _, _, _], rfl, ⟨_, ?_, rfl⟩, rfl⟩, HI12, F12, G12, Q12⟩
              first | rfl | (simp; done) | (simp; omega)
          · intro mid w12 hml hmb hF
            obtain ⟨HI12, F12, G12, Q12⟩ := hF
            clear HI11 F11 G11 Q11 HCH11 AI j0 j1 j2 j3 j4 j5 f0 f1 f2 f3 m0 m1 HCL HDT
            obtain ⟨x0, t0, q0, hml0⟩ := cons_of hml
            subst q0
            obtain ⟨x1, t1, q1, hml1⟩ := cons_of hml0
            subst q1
            obtain ⟨x2, t2, q2, hml2⟩ := cons_of hml1
            subst q2
            obtain ⟨x3, t3, q3, hml3⟩ := cons_of hml2
            subst q3
            obtain ⟨x4, t4, q4, hml4⟩ := cons_of hml3
            subst q4
            obtain ⟨x5, t5, q5, hml5⟩ := cons_of hml4
            subst q5
            obtain ⟨x6, t6, q6, hml6⟩ := cons_of hml5
            subst q6
            obtain ⟨x7, t7, q7, hml7⟩ := cons_of hml6
            subst q7
            obtain ⟨x8, t8, q8, hml8⟩ := cons_of hml7
            subst q8
            obtain ⟨x9, t9, q9, hml9⟩ := cons_of hml8
            subst q9
            obtain ⟨x10, t10, q10, hml10⟩ := cons_of hml9
            subst q10
            obtain ⟨x11, t11, q11, hml11⟩ := cons_of hml10
            subst q11
            obtain ⟨x12, t12, q12, hml12⟩ := cons_of hml11
            subst q12
            obtain ⟨x13, t13, q13, hml13⟩ := cons_of hml12
            subst q13
            obtain ⟨x14, t14, q14, hml14⟩ := cons_of hml13
            subst q14
            obtain ⟨x15, t15, q15, hml15⟩ := cons_of hml14
            subst q15
            obtain ⟨x16, t16, q16, hml16⟩ := cons_of hml15
            subst q16
            obtain ⟨x17, t17, q17, hml17⟩ := cons_of hml16
            subst q17
            obtain ⟨x18, t18, q18, hml18⟩ := cons_of hml17
            subst q18
            obtain ⟨x19, t19, q19, hml19⟩ := cons_of hml18
            subst q19
            obtain ⟨x20, t20, q20, hml20⟩ := cons_of hml19
            subst q20
            obtain ⟨x21, t21, q21, hml21⟩ := cons_of hml20
            subst q21
            obtain ⟨x22, t22, q22, hml22⟩ := cons_of hml21
            subst q22
            obtain ⟨x23, t23, q23, hml23⟩ := cons_of hml22
            subst q23
            obtain ⟨x24, t24, q24, hml24⟩ := cons_of hml23
            subst q24
            obtain ⟨x25, t25, q25, hml25⟩ := cons_of hml24
            subst q25
            obtain ⟨x26, t26, q26, hml26⟩ := cons_of hml25
            subst q26
            obtain ⟨x27, t27, q27, hml27⟩ := cons_of hml26
            subst q27
            obtain ⟨x28, t28, q28, hml28⟩ := cons_of hml27
            subst q28
            obtain ⟨x29, t29, q29, hml29⟩ := cons_of hml28
            subst q29
            obtain ⟨x30, t30, q30, hml30⟩ := cons_of hml29
            subst q30
            obtain ⟨x31, t31, q31, hml31⟩ := cons_of hml30
            subst q31
            obtain ⟨x32, t32, q32, hml32⟩ := cons_of hml31
            subst q32
            obtain ⟨x33, t33, q33, hml33⟩ := cons_of hml32
            subst q33
            obtain ⟨x34, t34, q34, hml34⟩ := cons_of hml33
            subst q34
            obtain ⟨x35, t35, q35, hml35⟩ := cons_of hml34
            subst q35
            obtain ⟨x36, t36, q36, hml36⟩ := cons_of hml35
            subst q36
            obtain ⟨x37, t37, q37, hml37⟩ := cons_of hml36
            subst q37
            obtain ⟨x38, t38, q38, hml38⟩ := cons_of hml37
            subst q38
            obtain ⟨x39, t39, q39, hml39⟩ := cons_of hml38
            subst q39
            obtain ⟨x40, t40, q40, hml40⟩ := cons_of hml39
            subst q40
            obtain ⟨x41, t41, q41, hml41⟩ := cons_of hml40
            subst q41
            obtain ⟨x42, t42, q42, hml42⟩ := cons_of hml41
            subst q42
            obtain ⟨x43, t43, q43, hml43⟩ := cons_of hml42
            subst q43
            obtain ⟨x44, t44, q44, hml44⟩ := cons_of hml43
            subst q44
            obtain ⟨x45, t45, q45, hml45⟩ := cons_of hml44
            subst q45
            have hmn := List.length_eq_zero_iff.1 hml45
            subst hmn
            obtain rfl : x45 = .bool false := by simpa using hmb
            clear hmb hml hml0 hml1 hml2 hml3 hml4 hml5 hml6 hml7 hml8 hml9 hml10 hml11 hml12 hml13 hml14 hml15 hml16 hml17 hml18 hml19 hml20 hml21 hml22 hml23 hml24 hml25 hml26 hml27 hml28 hml29 hml30 hml31 hml32 hml33 hml34 hml35 hml36 hml37 hml38 hml39 hml40 hml41 hml42 hml43 hml44 hml45
            simp only [List.take_succ_cons, List.take_zero, List.drop_succ_cons, List.drop_zero, List.cons_append, List.nil_append]

            obtain ⟨f0, f1, f2, f3⟩ := cells4 (F12.out.heap B87.out (by simp))
            obtain ⟨j0, j1, j2, j3, j4, j5⟩ := cells6 HI12.out
            have HRE12 := Lib.hid (HRE.out w12 Q12.out)
            clear HRE
            go_wp2_with fail
            refine HRE12.out.mono ?_
            rintro e w13 ⟨rv, rfl, ho13, r13⟩
            obtain ⟨ra, rc, rfl⟩ := owns_shape ho13
            have HO13 := Lib.hid (owns_reads ho13)
            have HI13 := Lib.hid (r13.heap HI12.out (by simp))
            have F13 := Lib.hid (F12.out.trans r13)
            have G13 := Lib.hid (r13.heap G12.out (by simp))
            have hrl := HRL.out
            clear ho13 r13 j0 j1 j2 j3 j4 j5 f0 f1 f2 f3 HI12 F12 G12 HRE12 Q12
            go_wp2_with fail
            go_loopw [17] (fun x wr => ∃ t : Nat, x = .int .i64 t ∧ t ≤ rs.length ∧ Hid (Fr no w13 wr)) (fun x _ => (rs.length - intOf x).toNat)
            case atStart => exact ⟨0, rfl, by omega, Lib.hid (Fr.refl _ _)⟩
            case round =>
              obtain ⟨t, rfl, htl, hfr2⟩ := hrel
              obtain ⟨f0, f1, f2, f3⟩ := cells4 ((F13.out.trans hfr2.out).heap B87.out (by simp))
              by_cases hte : t = rs.length
              case neg =>
                have htn : t < rs.length := by omega
                have htn' : (t : Int) < rs.length := by omega
                obtain ⟨rb, ro, rfl, cr⟩ := (HO13.out.fr hfr2.out (by simp)).at1 (k := t) (u := .int .i64 rs[t]) (by simp [ints, htn])
                obtain ⟨hy0, hy1, hy2⟩ := HRS.out rs[t] (List.getElem_mem htn)
                generalize rs[t] = y at *
                obtain ⟨yn, rfl⟩ : ∃ yn : Nat, y = yn := ⟨y.toNat, by omega⟩
                rw [Int.toNat_natCast] at hy2
                have cy : wr.cell? ⟨og, yn, none⟩ = some (.bool true) := by
                  obtain ⟨h1, h2⟩ := List.getElem?_eq_some_iff.1 hy2
                  exact cell_of_heap (hfr2.out.heap G13.out (by simp)) (by simp [bools, h1, h2])
                have hy64 : (yn : Int) < 64 := by omega
                have hy1' : ¬ (yn : Int) ≥ fr' := by omega
                clear hy2
                go_upto_region 26 with fail
                go_quiet (fail)
                go_wp2_with fail
                go_roundw
                case rel => exact ⟨t + 1, by go_num, by omega, Lib.hid (hfr2.out.drewN _)⟩
                case measure => first | (simp [intOf]; done) | (simp [intOf]; omega)
              subst hte
              have HI14 := Lib.hid (hfr2.out.heap HI13.out (by simp))
              have F14 := Lib.hid (F13.out.trans hfr2.out)
              have G14 := Lib.hid (hfr2.out.heap G13.out (by simp))
              obtain ⟨j0, j1, j2, j3, j4, j5⟩ := cells6 HI14.out
              clear f0 f1 f2 f3 HI13 F13 G13 hfr2
              go_wp2_with fail
              refine (HWT.out _).mono ?_
              rintro e w15 ⟨rfl, r15⟩
              have F15 := Lib.hid (F14.out.trans r15)
              have G15 := Lib.hid (r15.heap G14.out (by simp))
              clear r15 j0 j1 j2 j3 j4 j5 HI14 F14 G14
              obtain ⟨f0, f1, f2, f3⟩ := cells4 (F15.out.heap B87.out (by simp))
              have hnf := nx_few (fis is) k
              obtain ⟨rv, h1, h2⟩ := HN7.out
              rw [nxs_len] at h1
              have hl := h1.len
              have hkr : k < rv.length := by omega
              obtain ⟨nb, no', en, e2⟩ := h1.at1 (k := k) (u := rv[k]) (List.getElem?_eq_getElem hkr)
              have hrv := h2 k _ _ (List.getElem?_eq_getElem hkr) (nxs_at is k hk)
              generalize rv[k] = v at *
              obtain ⟨va, vc, rfl⟩ := hrv.shape
              subst en
              have HCN := Lib.hid e2
              have HRV := Lib.hid hrv
              have HNM : Hid (∀ t (h : t < (nx (fis is) k).length), (nx (fis is) k)[t] ∈ nx (fis is) k ∧ (nx (fis is) k)[t] < is.length) := Lib.hid (fun t h => ⟨List.getElem_mem h, HNL.out k _ (List.getElem_mem h)⟩)
              clear h1 h2 hl hkr hrv e2
              obtain ⟨yb, yo, rfl, cyw⟩ := (HYB.out.fr F15.out (by simp)).at1 (k := s) (u := .bool ys[s]) (by simp [bools, hs])
              have HCY := Lib.hid cyw
              have HYS : Hid (ys[s]? = some ys[s]) := Lib.hid (List.getElem?_eq_getElem hs)
              generalize ys[s] = yw at *
              clear cyw
              rcases HWI.out with hwm | ⟨hw0, hw1⟩
              · have HST : Hid (∀ x, x ∈ nx (fis is) k → x < is.length → WInv is.length r (nx (fis is)) (wrN is) x wl) := Lib.hid (fun x hx hn => HW.out.step hx hn HW.out.len (fun r hr => ⟨hr, by rw [HWR.out, hwm]; omega⟩))
                subst hwm
                have hwr : ¬ (-1 : Int) ≥ fr' := by have := (fnCk_iff.1 HFK.out).1; unfold numBad at this; simp at this; omega
                have cn := F15.out.cell HCN.out (by simp)
                have HRVF := Lib.hid (HRV.out.fr F15.out (by simp))
                have cyw : w15.cell? ⟨yb, yo + s, none⟩ = some (.bool yw) := HCY.out
                generalize nx (fis is) k = nk at *
                by_cases hn0 : nk.length = 0
                · have en0 : ((nk.length : Int) == 0) = true := beq_iff_eq.2 (by omega)
                  go_wp2_with fail
                  go_ret
                  exact ⟨rfl, R7.out.trans F15.out⟩
                have en0 : ((nk.length : Int) == 0) = false := beq_eq_false_iff_ne.2 (by omega)
                have hn1 : 0 < nk.length := by omega
                have hn1' : (0 : Int) < nk.length := by omega
                obtain ⟨vb, vo, rfl, ct⟩ := HRVF.out.at1 (k := 0) (u := .int .i64 (nk[0] : Nat)) (by simp [ints, nats, hn1])
                rw [Nat.add_zero] at ct
                cases yw
                · obtain ⟨hx1, hx2⟩ := HNM.out 0 hn1
                  have HWX := Lib.hid (HST.out _ hx1 hx2)
                  generalize nk[0] = x at *
                  have hx' : ¬ (x : Int) ≥ is.length := by omega
                  go_wp2_with fail
                  go_roundw
                  case rel => exact ⟨x, s + 1, _, rfl, by go_num, by omega, HWX, G15, F15⟩
                  case measure => first | (simp [intOf]; done) | (simp [intOf]; omega)
                · have hlast : nk.length - 1 < nk.length := by omega
                  obtain ⟨vb2, vo2, e0, ct2⟩ := HRVF.out.at1 (k := nk.length - 1) (u := .int .i64 (nk[nk.length - 1] : Nat)) (by simp [ints, nats, hlast])
                  cases e0
                  obtain ⟨hx1, hx2⟩ := HNM.out (nk.length - 1) hlast
                  have HWX := Lib.hid (HST.out _ hx1 hx2)
                  obtain ⟨lt, hlt⟩ : ∃ t, t = nk.length - 1 := ⟨_, rfl⟩
                  have hlt' : ((nk.length : Int) - 1) = lt := by omega
                  have hltn : (lt : Int) < nk.length := by omega
                  generalize hgx : nk[nk.length - 1] = x at *
                  generalize nk[0] = x0 at *
                  rw [← hlt] at ct2
                  have hx' : ¬ (x : Int) ≥ is.length := by omega
                  clear hgx hlt hlast
                  go_upto_region 36 with fail
                  go_quiet (fail)
                  go_wp2_with fail
                  go_roundw
                  case rel => exact ⟨x, s + 1, _, rfl, by go_num, by omega, HWX, Lib.hid (((Fr.refl no _).drewN _).heap G15.out (by simp)), Lib.hid (F15.out.drewN _)⟩
                  case measure => first | (simp [intOf]; done) | (simp [intOf]; omega)
              · obtain ⟨wn, rfl⟩ : ∃ wn : Nat, wi = wn := ⟨wi.toNat, by omega⟩
                have hwr : ¬ (wn : Int) ≥ fr' := by omega
                have hw64 : (wn : Int) < 64 := by omega
                have hwl : wn < wl.length := by rw [HW.out.len]; omega
                have cg : w15.cell? ⟨og, wn, none⟩ = some (.bool wl[wn]) := cell_of_heap G15.out (by simp [bools, hwl])
                have fg : w15.frozen? ⟨og, wn, none⟩ = false := frozen_of_heap G15.out
                have G16 : Hid ((w15.setCell ⟨og, wn, none⟩ (.bool true)).heap[og]? = some (.cells (bools (wl.set wn true)).toArray 4 (0, 0))) := Lib.hid (by rw [heap_setCell G15.out, bools_setA])
                have F16 : Hid (Fr no w7 (w15.setCell ⟨og, wn, none⟩ (.bool true))) := Lib.hid (F15.out.setCell _ _ (.inr (by have := HOG.out; simp; omega)))
                have HST : Hid (∀ x, x ∈ nx (fis is) k → x < is.length → WInv is.length r (nx (fis is)) (wrN is) x (wl.set wn true)) := Lib.hid (fun x hx hn => HW.out.step hx hn (by rw [List.length_set]; exact HW.out.len) (fun r hr => by
                  obtain ⟨h1, h2⟩ := set_wrote r hr
                  exact ⟨h1, by rw [HWR.out]; exact h2⟩))
                generalize wl[wn] = ob at *
                clear hwl
                go_upto_region 33 with fail
                clear f0 f1 f2 f3 cg fg F15 G15
                generalize w15.setCell ⟨og, wn, none⟩ (.bool true) = w16 at *
                obtain ⟨f0, f1, f2, f3⟩ := cells4 (F16.out.heap B87.out (by simp))
                have cn := F16.out.cell HCN.out (by simp)
                have HRVF := Lib.hid (HRV.out.fr F16.out (by simp))
                have cyw : w16.cell? ⟨yb, yo + s, none⟩ = some (.bool yw) := by have := ((HY.out.fr R7.out (by simp)).fr F16.out (by simp)).at1 (k := s) (u := .bool yw) (by simpa [bools] using HYS.out); obtain ⟨_, _, e0, e1⟩ := this; cases e0; exact e1
                generalize nx (fis is) k = nk at *
                by_cases hn0 : nk.length = 0
                · have en0 : ((nk.length : Int) == 0) = true := beq_iff_eq.2 (by omega)
                  go_wp2_with fail
                  go_ret
                  exact ⟨rfl, R7.out.trans F16.out⟩
                have en0 : ((nk.length : Int) == 0) = false := beq_eq_false_iff_ne.2 (by omega)
                have hn1 : 0 < nk.length := by omega
                have hn1' : (0 : Int) < nk.length := by omega
                obtain ⟨vb, vo, rfl, ct⟩ := HRVF.out.at1 (k := 0) (u := .int .i64 (nk[0] : Nat)) (by simp [ints, nats, hn1])
                rw [Nat.add_zero] at ct
                cases yw
                · obtain ⟨hx1, hx2⟩ := HNM.out 0 hn1
                  have HWX := Lib.hid (HST.out _ hx1 hx2)
                  generalize nk[0] = x at *
                  have hx' : ¬ (x : Int) ≥ is.length := by omega
                  go_wp2_with fail
                  go_roundw
                  case rel => exact ⟨x, s + 1, _, rfl, by go_num, by omega, HWX, G16, F16⟩
                  case measure => first | (simp [intOf]; done) | (simp [intOf]; omega)
                · have hlast : nk.length - 1 < nk.length := by omega
                  obtain ⟨vb2, vo2, e0, ct2⟩ := HRVF.out.at1 (k := nk.length - 1) (u := .int .i64 (nk[nk.length - 1] : Nat)) (by simp [ints, nats, hlast])
                  cases e0
                  obtain ⟨hx1, hx2⟩ := HNM.out (nk.length - 1) hlast
                  have HWX := Lib.hid (HST.out _ hx1 hx2)
                  obtain ⟨lt, hlt⟩ : ∃ t, t = nk.length - 1 := ⟨_, rfl⟩
                  have hlt' : ((nk.length : Int) - 1) = lt := by omega
                  have hltn : (lt : Int) < nk.length := by omega
                  generalize hgx : nk[nk.length - 1] = x at *
                  generalize nk[0] = x0 at *
                  rw [← hlt] at ct2
                  have hx' : ¬ (x : Int) ≥ is.length := by omega
                  clear hgx hlt hlast
                  go_upto_region 36 with fail
                  go_quiet (fail)
                  go_wp2_with fail
                  go_roundw
                  case rel => exact ⟨x, s + 1, _, rfl, by go_num, by omega, HWX, Lib.hid (((Fr.refl no _).drewN _).heap G16.out (by simp)), Lib.hid (F16.out.drewN _)⟩
                  case measure => first | (simp [intOf]; done) | (simp [intOf]; omega)

theorem holds12_rd (w : World) (s0 : Array Value) {n0 : Nat} {d0 : Dt} (h0 : Rd Tryz.prog w n0 38 s0.toList d0) (which : Int) (yv : Value) (ys : List Bool) (hy : Reads w yv 1 ys.length (ys.map Value.bool)) :
    Calls Tryz.prog 6 #[.agg s0, .int .i64 which, yv] w fun e w' => e = .returned (.bool true) ∧ Fr no w w' := by
  obtain ⟨m, da, dc, fa, fc, hs, hm, hr⟩ := mod_of h0
  obtain rfl : s0 = #[.slice da m.d.length dc, .slice fa m.f.length fc] := Array.ext' hs
  exact holds12_ok w m da fa dc fc hm hr which yv ys hy

end Go.Proofs.YtofahdjnejodjaaGreat

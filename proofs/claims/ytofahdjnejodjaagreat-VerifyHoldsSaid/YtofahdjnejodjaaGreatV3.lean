/- verify.Find and Check (law12). -/
import Derived.Test.YtofahdjnejodjaaGreatV2
set_option linter.unusedSimpArgs false
set_option linter.unusedVariables false
set_option linter.unusedSectionVars false
set_option linter.unnecessarySimpa false
namespace Go.Proofs.YtofahdjnejodjaaGreat
open Go.RowKit Go.Flow Go.Sure

attribute [local go_sem] Program.isFuncB Program.isSliceB

variable {w w' w'' w0 : World}

theorem fnFind_ok {m : Mx} {f : Fx} (h : (fnFind m f).2 = 0) : (fnFind m f).1 = -1 := by
  have key : ∀ (l : List Ix) (k : Nat) (r : Int × Int), insFind m l k = some r → r.2 ≠ 0 := by
    intro l
    induction l with
    | nil => intro k r hr; cases hr
    | cons i l ih =>
      intro k r hr
      unfold insFind at hr
      split at hr
      · rename_i hi; cases hr; exact hi
      · exact ih _ _ hr
  unfold fnFind at h ⊢
  split
  · rename_i hc; rw [if_pos hc] at h <;> exact absurd h hc
  · rename_i hc
    rw [if_neg hc] at h
    cases hx : insFind m f.c 0 with
    | some r => rw [hx] at h; exact absurd h (key _ _ _ hx)
    | none =>
      rw [hx] at h
      simp only at h ⊢
      split
      · rename_i ha; rw [if_pos ha] at h; simp at h
      · rfl
noncomputable def fnsFind (m : Mx) : List Fx → Nat → Int × Int × Int
  | [], _ => (-1, -1, 0)
  | f :: l, n => if (fnFind m f).2 ≠ 0 then ((n : Int), (fnFind m f).1, (fnFind m f).2) else fnsFind m l (n + 1)
theorem fnsFind_none {m : Mx} : ∀ (l : List Fx) (k : Nat), (∀ j (h : j < l.length), (fnFind m l[j]).2 = 0) → fnsFind m l k = (-1, -1, 0)
  | [], _, _ => rfl
  | i :: l, k, h => by
    have h0 := h 0 (by simp)
    rw [List.getElem_cons_zero] at h0
    unfold fnsFind
    rw [if_neg (by simp [h0])]
    exact fnsFind_none l (k + 1) (fun j hj => by have := h (j + 1) (by simpa using hj); simpa using this)
theorem fnsFind_some {m : Mx} : ∀ (l : List Fx) (k t : Nat) (ht : t < l.length), (∀ j (_ : j < t) (h : j < l.length), (fnFind m l[j]).2 = 0) → (fnFind m l[t]).2 ≠ 0 →
    fnsFind m l k = (((k + t : Nat) : Int), (fnFind m l[t]).1, (fnFind m l[t]).2)
  | i :: l, k, 0, _, _, hb => by
    rw [List.getElem_cons_zero] at hb ⊢
    unfold fnsFind
    rw [if_pos hb]
    simp
  | i :: l, k, t + 1, ht, h, hb => by
    have h0 := h 0 (by omega) (by simp)
    rw [List.getElem_cons_zero] at h0
    rw [List.getElem_cons_succ] at hb ⊢
    unfold fnsFind
    rw [if_neg (by simp [h0]), fnsFind_some l (k + 1) t (by simpa using ht) (fun j hj hl => by have := h (j + 1) (by omega) (by simpa using hl); simpa using this) hb]
    congr 2
    omega
/-- where it is found that a module is not accepted, and why -/
noncomputable def modFind (m : Mx) : Int × Int × Int :=
  if modCk m ≠ 0 then (-1, -1, modCk m) else if 0 < (m.f.getD 0 fxNil).p then (0, -1, 2) else fnsFind m m.f 0

theorem modCk_fns {m : Mx} (h : modCk m = 0) : 0 < m.f.length ∧ ∀ f ∈ m.f, 0 ≤ f.p ∧ f.p ≤ 8 := by
  unfold modCk at h
  split at h
  · omega
  split at h
  · omega
  rename_i hn
  refine ⟨by omega, fun f hf => ?_⟩
  have hk : fnCk f = 0 := by
    apply Classical.byContradiction
    intro hb
    unfold fnsCk firstBad at h
    cases hx : m.f.find? (fun i => fnCk i != 0) with
    | some g =>
      rw [hx] at h
      have := List.find?_some hx
      simp at this
      exact this h
    | none =>
      have := List.find?_eq_none.1 hx f hf
      simp at this
      exact hb this
  unfold fnCk at hk
  split at hk
  · omega
  · rename_i hq
    unfold numBad at hq
    simp at hq
    omega

/-- Find's cells -/
structure VW (w wr : World) (b0 b1 b2 b3 b4 : Nat) (u v : Value) (a k : Int) : Prop where
  eqs : w.heap.size = b0 ∧ b1 = b0 + 1 ∧ b2 = b0 + 2 ∧ b3 = b0 + 3 ∧ b4 = b0 + 4
  mod : wr.heap[b0]? = some (.cells #[u, v] 38 (0, 0))
  rf : wr.heap[b1]? = some (.cells #[.int .i64 0] 3 (0, 0))
  ri : wr.heap[b2]? = some (.cells #[.int .i64 0] 3 (0, 0))
  at_ : wr.heap[b3]? = some (.cells #[.int .i64 a] 3 (0, 0))
  k_ : wr.heap[b4]? = some (.cells #[.int .i64 k] 3 (0, 0))
  fr : Fr no w wr
theorem VW.start (w : World) (u v : Value) (a k : Int) : VW w (((((w.alloc (.cells #[u, v] 38)).alloc (.cells #[.int .i64 0] 3)).alloc (.cells #[.int .i64 0] 3)).alloc (.cells #[.int .i64 a] 3)).alloc (.cells #[.int .i64 k] 3))
    w.heap.size (w.heap.size + 1) (w.heap.size + 1 + 1) (w.heap.size + 1 + 1 + 1) (w.heap.size + 1 + 1 + 1 + 1) u v a k := by
  obtain ⟨h0, h1, h2, h3, h4⟩ := five w (.cells #[u, v] 38) (.cells #[.int .i64 0] 3) (.cells #[.int .i64 0] 3) (.cells #[.int .i64 a] 3) (.cells #[.int .i64 k] 3)
  exact ⟨by omega, h0, h1, h2, h3, h4, (((((Fr.refl no w).alloc _).alloc _).alloc _).alloc _).alloc _⟩
theorem VW.to {wr wr' : World} {b0 b1 b2 b3 b4 : Nat} {u v : Value} {a k : Int} (h : VW w wr b0 b1 b2 b3 b4 u v a k) (r : Fr no wr wr') : VW w wr' b0 b1 b2 b3 b4 u v a k :=
  ⟨h.eqs, r.heap h.mod (by simp), r.heap h.rf (by simp), r.heap h.ri (by simp), r.heap h.at_ (by simp), r.heap h.k_ (by simp), h.fr.trans r⟩
theorem VW.setAt {wr : World} {b0 b1 b2 b3 b4 : Nat} {u v : Value} {a k : Int} (h : VW w wr b0 b1 b2 b3 b4 u v a k) (a' : Int) : VW w (wr.setCell ⟨b3, 0, none⟩ (.int .i64 a')) b0 b1 b2 b3 b4 u v a' k := by
  have r : Fr (only [b3]) wr (wr.setCell ⟨b3, 0, none⟩ (.int .i64 a')) := (Fr.refl _ wr).setCell _ _ (.inl (by simp))
  have e := h.eqs
  exact ⟨h.eqs, r.heap h.mod (by simp; omega), r.heap h.rf (by simp; omega), r.heap h.ri (by simp; omega), by rw [heap_setCell h.at_]; rfl, r.heap h.k_ (by simp; omega), h.fr.trans' r (fun b hb _ => by simp at hb; omega)⟩
theorem VW.setK {wr : World} {b0 b1 b2 b3 b4 : Nat} {u v : Value} {a k : Int} (h : VW w wr b0 b1 b2 b3 b4 u v a k) (k' : Int) : VW w (wr.setCell ⟨b4, 0, none⟩ (.int .i64 k')) b0 b1 b2 b3 b4 u v a k' := by
  have r : Fr (only [b4]) wr (wr.setCell ⟨b4, 0, none⟩ (.int .i64 k')) := (Fr.refl _ wr).setCell _ _ (.inl (by simp))
  have e := h.eqs
  exact ⟨h.eqs, r.heap h.mod (by simp; omega), r.heap h.rf (by simp; omega), r.heap h.ri (by simp; omega), r.heap h.at_ (by simp; omega), by rw [heap_setCell h.k_]; rfl, h.fr.trans' r (fun b hb _ => by simp at hb; omega)⟩

theorem find1_ok {wr : World} {b0 b1 b2 b3 b4 : Nat} {u0 v0 : Value} {a k : Int} (h : VW w wr b0 b1 b2 b3 b4 u0 v0 a k) (u : FrameMode) :
    CallsD Tryz.prog 49 #[.pointer (some ⟨b3, 0, none⟩), .pointer (some ⟨b4, 0, none⟩), .pointer (some ⟨b1, 0, none⟩), .pointer (some ⟨b2, 0, none⟩)] u wr
      fun e u' w' => u' = u ∧ (e = .returned (.tuple #[]) ∧ w'.heap[b1]? = some (.cells #[.int .i64 a] 3 (0, 0)) ∧ w'.heap[b2]? = some (.cells #[.int .i64 k] 3 (0, 0)) ∧ Fr no w w') := by
  have c3 : wr.cell? ⟨b3, 0, none⟩ = some (.int .i64 a) := cell_of_heap h.at_ rfl
  have c4 : wr.cell? ⟨b4, 0, none⟩ = some (.int .i64 k) := cell_of_heap h.k_ rfl
  have c1 : wr.cell? ⟨b1, 0, none⟩ = some (.int .i64 0) := cell_of_heap h.rf rfl
  have f1 : wr.frozen? ⟨b1, 0, none⟩ = false := frozen_of_heap h.rf
  have EQ := Lib.hid h.eqs
  have r1 : Fr (only [b1]) wr (wr.setCell ⟨b1, 0, none⟩ (.int .i64 a)) := (Fr.refl _ wr).setCell _ _ (.inl (by simp))
  have H1 := Lib.hid (show (wr.setCell ⟨b1, 0, none⟩ (.int .i64 a)).heap[b1]? = some (.cells #[.int .i64 a] 3 (0, 0)) from by rw [heap_setCell h.rf]; rfl)
  have H2 := Lib.hid (r1.heap h.ri (by have := EQ.out; simp; omega))
  have c2 : (wr.setCell ⟨b1, 0, none⟩ (.int .i64 a)).cell? ⟨b2, 0, none⟩ = some (.int .i64 0) := cell_of_heap H2.out rfl
  have f2 : (wr.setCell ⟨b1, 0, none⟩ (.int .i64 a)).frozen? ⟨b2, 0, none⟩ = false := frozen_of_heap H2.out
  have R1 := Lib.hid (h.fr.trans' r1 (fun b hb _ => by have := EQ.out; simp at hb; omega))
  clear h r1
  go_enter_d Tryz.func49, Tryz.ntmps49
  go_wp2_with fail
  go_end0
  have r2 : Fr (only [b2]) (wr.setCell ⟨b1, 0, none⟩ (.int .i64 a)) ((wr.setCell ⟨b1, 0, none⟩ (.int .i64 a)).setCell ⟨b2, 0, none⟩ (.int .i64 k)) := (Fr.refl _ _).setCell _ _ (.inl (by simp))
  exact ⟨rfl, r2.heap H1.out (by have := EQ.out; simp; omega), by rw [heap_setCell H2.out]; rfl, R1.out.trans' r2 (fun b hb _ => by have := EQ.out; simp at hb; omega)⟩

theorem results_cct {P : Program} {fn : Func} {tmps : Array Value} {w : World} {d1 d2 d3 : Tmp} {t1 t2 : TypeId} {a1 a2 : Addr} {v1 v2 v3 : Value} (hr : fn.results = #[.cell d1 t1, .cell d2 t2, .tmp d3])
    (h1 : tmps.getD d1 undef = .pointer (some a1)) (h2 : tmps.getD d2 undef = .pointer (some a2)) (h3 : tmps.getD d3 undef = v3)
    (l1 : (loadVar t1 a1).run P w = .ok v1 w) (l2 : (loadVar t2 a2).run P w = .ok v2 w) : (results fn tmps).run P w = .ok (.tuple #[v1, v2, v3]) w := by
  have h1' : tmps[d1]?.getD undef = .pointer (some a1) := by rw [← h1]; simp [Array.getD_eq_getD_getElem?]
  have h2' : tmps[d2]?.getD undef = .pointer (some a2) := by rw [← h2]; simp [Array.getD_eq_getD_getElem?]
  have h3' : tmps[d3]?.getD undef = v3 := by rw [← h3]; simp [Array.getD_eq_getD_getElem?]
  simp only [results, hr]
  simp [h1', h2', h3', asAddr, l1, l2]

def FindPost (w : World) (r : Int × Int × Int) (e : Ending) (w' : World) : Prop := e = .returned (.tuple #[.int .i64 r.1, .int .i64 r.2.1, .int .i64 r.2.2]) ∧ Fr no w w'

set_option maxRecDepth 100000 in
set_option maxHeartbeats 4000000 in
theorem find_ok (w : World) (m : Mx) (da fa : Option Addr) (dc fc : Nat) (hm : ModIn w m da dc fa) (hs : m.Small) (hf : ∀ f ∈ m.f, FnSmall f) :
    Calls Tryz.prog 20 #[.agg #[.slice da m.d.length dc, .slice fa m.f.length fc]] w (FindPost w (modFind m)) := by
  have HMI := Lib.hid hm
  have HCH := Lib.hid (fun w2 (r : Fr no w w2) => check_mod w2 m da dc fa fc (hm.fr r) hs)
  have HFS := Lib.hid hf
  have HMF : Hid (modFind m = if modCk m ≠ 0 then (-1, -1, modCk m) else if 0 < (m.f.getD 0 fxNil).p then (0, -1, 2) else fnsFind m m.f 0) := Lib.hid rfl
  have HCF : Hid (modCk m = 0 → 0 < m.f.length ∧ ∀ f ∈ m.f, 0 ≤ f.p ∧ f.p ≤ 8) := Lib.hid modCk_fns
  generalize modFind m = RES at *
  generalize modCk m = ck at *
  have hfl := hs.fns
  clear hm hs hf
  go_enter_defers Tryz.func20, Tryz.ntmps20
  go_upto_region 3 with fail
  have HV := Lib.hid (VW.start w (.slice da m.d.length dc) (.slice fa m.f.length fc) (-1) (-1))
  generalize ((((w.alloc (.cells #[.slice da m.d.length dc, .slice fa m.f.length fc] 38)).alloc (.cells #[.int .i64 0] 3)).alloc (.cells #[.int .i64 0] 3)).alloc (.cells #[.int .i64 (-1)] 3)).alloc (.cells #[.int .i64 (-1)] 3) = w5 at *
  generalize w.heap.size + 1 + 1 + 1 + 1 = b4 at *
  generalize w.heap.size + 1 + 1 + 1 = b3 at *
  generalize w.heap.size + 1 + 1 = b2 at *
  generalize w.heap.size + 1 = b1 at *
  generalize w.heap.size = b0 at *
  have HCH5 := Lib.hid (HCH.out _ HV.out.fr)
  obtain ⟨m0, m1⟩ := cells2 HV.out.mod
  clear HCH
  go_wp2_with fail
  refine HCH5.out.mono ?_
  rintro e w6 ⟨rfl, r6⟩
  have HV6 := Lib.hid (HV.out.to r6)
  clear r6 HV HCH5 m0 m1
  by_cases hj : ck = 0
  case neg =>
    have e1 : (ck != 0) = true := by simpa using hj
    have HR : Hid (RES = (-1, -1, ck)) := Lib.hid (by rw [HMF.out, if_pos hj])
    clear hj
    go_wp2_with fail
    refine leaves_cons (f := 49) (args := #[.pointer (some ⟨b3, 0, none⟩), .pointer (some ⟨b4, 0, none⟩), .pointer (some ⟨b1, 0, none⟩), .pointer (some ⟨b2, 0, none⟩)]) (by simp) (by simp [go_sem]) ?_
    refine (find1_ok HV6.out _).mono ?_
    rintro e u' w9 ⟨rfl, rfl, g1, g2, r9⟩
    exact ⟨_, results_cct rfl rfl rfl rfl (load_int w9 _ _ g1) (load_int w9 _ _ g2), by rw [HR.out]; rfl, r9⟩
  obtain ⟨hpos, hfp⟩ := HCF.out hj
  have HFP := Lib.hid hfp
  have HR0 : Hid (RES = if 0 < (m.f.getD 0 fxNil).p then (0, -1, 2) else fnsFind m m.f 0) := Lib.hid (by rw [HMF.out, if_neg (by simpa using hj)])
  subst hj
  clear HMF HCF hfp
  have hpos' : (0 : Int) < m.f.length := by omega
  obtain ⟨m0, m1⟩ := cells2 HV6.out.mod
  obtain ⟨gb, go', gca, gcc, rfl, hg⟩ := HMI.out.fns.fr HV6.out.fr 0 hpos
  have hg0 := hg.four.1
  have hgd : m.f.getD 0 fxNil = m.f[0] := by rw [List.getD_eq_getElem?_getD, List.getElem?_eq_getElem hpos]; rfl
  rw [hgd] at HR0
  rw [Nat.zero_mul, Nat.add_zero] at hg0
  have a3 : w6.cell? ⟨b3, 0, none⟩ = some (.int .i64 (-1)) := cell_of_heap HV6.out.at_ rfl
  have f3 : w6.frozen? ⟨b3, 0, none⟩ = false := frozen_of_heap HV6.out.at_
  by_cases hp0 : (0 : Int) < m.f[0].p
  · have HR : Hid (RES = (0, -1, 2)) := Lib.hid (by rw [HR0.out, if_pos hp0])
    generalize m.f[0].p = p0 at *
    have HV7 := Lib.hid (HV6.out.setAt 0)
    clear hg hgd
    go_wp2_with fail
    refine leaves_cons (f := 49) (args := #[.pointer (some ⟨b3, 0, none⟩), .pointer (some ⟨b4, 0, none⟩), .pointer (some ⟨b1, 0, none⟩), .pointer (some ⟨b2, 0, none⟩)]) (by simp) (by simp [go_sem]) ?_
    refine (find1_ok HV7.out _).mono ?_
    rintro e u' w9 ⟨rfl, rfl, g1, g2, r9⟩
    exact ⟨_, results_cct rfl rfl rfl rfl (load_int w9 _ _ g1) (load_int w9 _ _ g2), by rw [HR.out]; rfl, r9⟩
  have HR1 : Hid (RES = fnsFind m m.f 0) := Lib.hid (by rw [HR0.out, if_neg hp0])
  have hg2 := hg0
  generalize m.f[0].p = p0 at *
  clear hg hgd HR0
  clear a3 f3 hg0 m0 m1
  obtain ⟨m0, m1⟩ := cells2 HV6.out.mod
  have hg0 := hg2
  clear hg2
  go_wp2_with fail
  go_loopw [4, 23] (fun y x wr => ∃ k : Nat, y = .int .i64 0 ∧ k ≤ m.f.length ∧ x = .int .i64 k ∧ Hid (∀ j (_ : j < k) (h : j < m.f.length), (fnFind m m.f[j]).2 = 0) ∧ Hid (VW w wr b0 b1 b2 b3 b4 (.slice da m.d.length dc) (.slice (some ⟨gb, go', none⟩) m.f.length fc) (-1) (-1))) (fun _ x _ => (m.f.length - intOf x).toNat)
  case atStart => exact ⟨0, rfl, by omega, rfl, Lib.hid (fun j h _ => by omega), HV6⟩
  case round =>
    clear m0 m1 hg0
    obtain ⟨k, rfl, hk, rfl, hpre, HV7⟩ := hrel
    by_cases hks : k < m.f.length
    · have hks' : (k : Int) < m.f.length := by omega
      obtain ⟨b, of, ca, cc, e0, hi⟩ := HMI.out.fns.fr HV7.out.fr k hks
      cases e0
      obtain ⟨d0, d1, d2, d3⟩ := hi.four
      have hcd := HMI.out.fns
      have HPP := Lib.hid (fun w1 (r : Fr no w w1) (r2 : Fr no wr w1) => vfn_ok w1 m m.f[k] da (some ⟨gb, go', none⟩) ca dc fc cc (HMI.out.fns.fr r) (hi.code.fr r2) (HFS.out _ (List.getElem_mem hks)) (HFP.out _ (List.getElem_mem hks)))
      have HBAD : Hid ((fnFind m m.f[k]).2 ≠ 0 → RES = ((k : Int), (fnFind m m.f[k]).1, (fnFind m m.f[k]).2)) := Lib.hid (fun h => by rw [HR1.out, fnsFind_some m.f 0 k hks hpre.out h]; simp)
      have HPRE : Hid ((fnFind m m.f[k]).2 = 0 → ∀ j (_ : j < k + 1) (h : j < m.f.length), (fnFind m m.f[j]).2 = 0) := Lib.hid (fun h0 j hj h => by
        by_cases he : j = k
        · subst he; exact h0
        · exact hpre.out j (by omega) h)
      have HOKK : Hid ((fnFind m m.f[k]).2 = 0 → (fnFind m m.f[k]).1 = -1) := Lib.hid fnFind_ok
      clear hi hcd
      generalize fnFind m m.f[k] = qk at *
      generalize m.f[k] = fx at *
      obtain ⟨fp, fr', far, fcode⟩ := fx
      obtain ⟨q1, q2⟩ := qk
      dsimp only at d0 d1 d2 d3 HPP HBAD HPRE HOKK
      have r8 := (Fr.refl no wr).alloc (.cells #[.int .i64 fp, .int .i64 fr', .int .i64 far, .slice ca fcode.length cc] 50)
      have HV8 := Lib.hid (HV7.out.to r8)
      have HP8 := Lib.hid (HPP.out _ HV8.out.fr r8)
      clear r8 HPP
      obtain ⟨m0, m1⟩ := cells2 HV8.out.mod
      go_wp2_with fail
      refine HP8.out.mono ?_
      rintro e w9 ⟨rfl, r9⟩
      have HV9 := Lib.hid (HV8.out.to r9)
      have c4 : w9.cell? ⟨b4, 0, none⟩ = some (.int .i64 (-1)) := cell_of_heap HV9.out.k_ rfl
      have f4 : w9.frozen? ⟨b4, 0, none⟩ = false := frozen_of_heap HV9.out.k_
      clear r9 d0 d1 d2 d3 m0 m1 HP8 HV8 HV7
      have HV10 := Lib.hid (HV9.out.setK q1)
      by_cases hq : q2 = 0
      · have e2 : (q2 != 0) = false := by simpa using hq
        have HP := Lib.hid (HPRE.out hq)
        rw [HOKK.out hq] at HV10 ⊢
        subst hq
        go_wp2_with fail
        go_roundw
        case rel => exact ⟨k + 1, rfl, by omega, by go_num, HP, HV10⟩
        case measure => first | (simp [intOf]; done) | (simp [intOf]; omega)
      · have e2 : (q2 != 0) = true := by simpa using hq
        have HB := Lib.hid (HBAD.out hq)
        have HV11 := Lib.hid (HV10.out.setAt k)
        have c3 : (w9.setCell ⟨b4, 0, none⟩ (.int .i64 q1)).cell? ⟨b3, 0, none⟩ = some (.int .i64 (-1)) := cell_of_heap HV10.out.at_ rfl
        have f3 : (w9.setCell ⟨b4, 0, none⟩ (.int .i64 q1)).frozen? ⟨b3, 0, none⟩ = false := frozen_of_heap HV10.out.at_
        clear hq
        go_wp2_with fail
        refine leaves_cons (f := 49) (args := #[.pointer (some ⟨b3, 0, none⟩), .pointer (some ⟨b4, 0, none⟩), .pointer (some ⟨b1, 0, none⟩), .pointer (some ⟨b2, 0, none⟩)]) (by simp) (by simp [go_sem]) ?_
        refine (find1_ok HV11.out _).mono ?_
        rintro e u' w9 ⟨rfl, rfl, g1, g2, r9⟩
        exact ⟨_, results_cct rfl rfl rfl rfl (load_int w9 _ _ g1) (load_int w9 _ _ g2), by rw [HB.out]; rfl, r9⟩
    · obtain rfl : k = m.f.length := by omega
      have HNO : Hid (RES = (-1, -1, 0)) := Lib.hid (by rw [HR1.out]; exact fnsFind_none m.f 0 (fun j h => hpre.out j h h))
      clear hks hpre
      go_wp2_with fail
      refine leaves_cons (f := 49) (args := #[.pointer (some ⟨b3, 0, none⟩), .pointer (some ⟨b4, 0, none⟩), .pointer (some ⟨b1, 0, none⟩), .pointer (some ⟨b2, 0, none⟩)]) (by simp) (by simp [go_sem]) ?_
      refine (find1_ok HV7.out _).mono ?_
      rintro e u' w9 ⟨rfl, rfl, g1, g2, r9⟩
      exact ⟨_, results_cct rfl rfl rfl rfl (load_int w9 _ _ g1) (load_int w9 _ _ g2), by rw [HNO.out]; rfl, r9⟩

set_option maxHeartbeats 4000000 in
theorem vcheck_ok (w : World) (m : Mx) (da fa : Option Addr) (dc fc : Nat) (hm : ModIn w m da dc fa) (hs : m.Small) (hf : ∀ f ∈ m.f, FnSmall f) :
    Calls Tryz.prog 22 #[.agg #[.slice da m.d.length dc, .slice fa m.f.length fc]] w fun e w' => e = .returned (.int .i64 (modFind m).2.2) ∧ Fr no w w' := by
  have r1 := (Fr.refl no w).alloc (.cells #[.slice da m.d.length dc, .slice fa m.f.length fc] 38)
  have HFD := Lib.hid (find_ok _ m da fa dc fc (hm.fr r1) hs hf)
  have R1 := Lib.hid r1
  clear hm hs hf r1
  generalize modFind m = RES at *
  obtain ⟨x, y, z⟩ := RES
  go_enter Tryz.func22, Tryz.ntmps22
  go_wp2_with fail
  refine HFD.out.mono ?_
  rintro e w2 ⟨rfl, r2⟩
  have R2 := Lib.hid (R1.out.trans r2)
  clear r2
  go_wp2_with fail
  go_ret
  exact ⟨rfl, R2.out⟩

end Go.Proofs.YtofahdjnejodjaaGreat

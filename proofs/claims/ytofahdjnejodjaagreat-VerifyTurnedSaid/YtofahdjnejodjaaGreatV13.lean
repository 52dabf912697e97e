/- VerifyTurned's walk (law12). -/
import Derived.Test.YtofahdjnejodjaaGreatV12
set_option linter.unusedSimpArgs false
set_option linter.unusedVariables false
set_option linter.unusedSectionVars false
set_option linter.unnecessarySimpa false
namespace Go.Proofs.YtofahdjnejodjaaGreat
open Go.RowKit Go.Flow Go.Sure

attribute [local go_sem] Program.isFuncB Program.isSliceB

variable {w w' w'' w0 : World}

theorem Good.turned' {m : Mx} (h : Good m) (hd : m.d.length ≤ 300) (hfl : m.f.length ≤ 6) (f i : Nat) (fx : Fx) (ix : Ix) (hf : m.f[f]? = some fx) (hi : fx.c[i]? = some ix) (N' e : Int)
    (ho : (ix.o = 28 ∧ N' = m.f.length ∧ e = 13) ∨ (ix.o = 24 ∧ N' = m.d.length + 1 ∧ e = 5)) : modFind (turnM m f i N' fx ix) = ((f : Int), (i : Int), e) := by
  obtain ⟨hf1, rfl⟩ := List.getElem?_eq_some_iff.1 hf
  obtain ⟨hi1, rfl⟩ := List.getElem?_eq_some_iff.1 hi
  exact h.turned hd hfl f i hf1 hi1 N' e ho
theorem MX.turn' {wr : World} {base b0 : Nat} {xa oa : Option Addr} {xc oc : Nat} {d : List Nat} {l : List FxV} (h : MX w wr base b0 xa oa xc oc d l) (hs : l.Pairwise SepV) (f i : Nat) (p : FxV) (ix : Ix) (hf : l[f]? = some p) (hi : p.1.c[i]? = some ix) :
    ∃ cb co, p.2.1 = some ⟨cb, co, none⟩ ∧ wr.cell? ⟨cb, co + i * 6, none⟩ = some (.int .i64 ix.o) ∧ wr.cell? ⟨cb, co + i * 6 + 4, none⟩ = some (.int .i64 ix.N) ∧ wr.frozen? ⟨cb, co + i * 6 + 4, none⟩ = false ∧
      ∀ N', MX w (wr.setCell ⟨cb, co + i * 6 + 4, none⟩ (.int .i64 N')) base b0 xa oa xc oc d (l.set f (turnP p i N' ix)) := by
  obtain ⟨hf1, rfl⟩ := List.getElem?_eq_some_iff.1 hf
  obtain ⟨hi1, rfl⟩ := List.getElem?_eq_some_iff.1 hi
  exact h.turn hs f i hf1 hi1
theorem turn_small {m : Mx} {f i : Nat} {fx : Fx} {ix : Ix} {N' : Int} (hs : m.Small) (hf : ∀ f ∈ m.f, FnSmall f) (h1 : m.f[f]? = some fx) (h2 : fx.c[i]? = some ix) (hN : rng N') : (turnM m f i N' fx ix).Small ∧ ∀ g ∈ (turnM m f i N' fx ix).f, FnSmall g := by
  have hm : fx ∈ m.f := List.mem_of_getElem? h1
  have hi : ix ∈ fx.c := List.mem_of_getElem? h2
  have hin : ∀ {P : Ix → Prop}, (∀ j ∈ fx.c, P j) → P (turnN ix N') → ∀ j ∈ fx.c.set i (turnN ix N'), P j := fun h3 h4 j hj => by
    rcases List.mem_or_eq_of_mem_set hj with hj | rfl
    · exact h3 j hj
    · exact h4
  refine ⟨⟨hs.data, by unfold turnM; simpa using hs.fns, fun g hg => ?_, hs.lt⟩, fun g hg => ?_⟩
  · rcases List.mem_or_eq_of_mem_set hg with hg | rfl
    · exact hs.each g hg
    · have := hs.each fx hm
      exact ⟨by simpa using this.1, hin this.2 (this.2 ix hi)⟩
  · rcases List.mem_or_eq_of_mem_set hg with hg | rfl
    · exact hf g hg
    · have := hf fx hm
      exact ⟨by simpa using this.len, hin this.args (this.args ix hi), hin this.rng hN⟩

set_option maxRecDepth 100000 in
set_option maxHeartbeats 4000000 in
theorem turned12_ok (w : World) (m : Mx) (da fa : Option Addr) (dc fc : Nat) (hm : ModIn w m da dc fa) (hr : m.Raw) (which place : Int) :
    Calls Tryz.prog 8 #[.agg #[.slice da m.d.length dc, .slice fa m.f.length fc], .int .i64 which, .int .i64 place] w fun e w' => e = .returned (.bool true) ∧ Fr no w w' := by
  have HM := Lib.hid (heap_new w (.cells #[.slice da m.d.length dc, .slice fa m.f.length fc] 38))
  have r1 := (Fr.refl no w).alloc (.cells #[.slice da m.d.length dc, .slice fa m.f.length fc] 38)
  have R1 := Lib.hid r1
  have HMI := Lib.hid hm
  have HRW := Lib.hid hr
  clear hm hr r1
  go_enter Tryz.func8, Tryz.ntmps8
  go_wp2_with fail
  refine (awake12_ok _).mono ?_
  rintro e w2 ⟨rfl, r2⟩
  have R2 := Lib.hid (R1.out.trans r2)
  have HM2 := Lib.hid (r2.heap HM.out (by simp))
  have HLO := Lib.hid (longm_ok _ m da dc fa fc (HMI.out.fr R2.out) HRW.out)
  clear r2 HM R1
  obtain ⟨B0, hB0⟩ : ∃ b, b = w.heap.size := ⟨_, rfl⟩
  rw [← hB0] at HM2 ⊢
  clear hB0
  obtain ⟨m0, m1⟩ := cells2 HM2.out
  go_wp2_with fail
  refine HLO.out.mono ?_
  rintro e w3 ⟨q, rfl, hq, r3⟩
  have R3 := Lib.hid (R2.out.trans r3)
  have HM3 := Lib.hid (r3.heap HM2.out (by simp))
  have HQ := Lib.hid hq
  clear hq r3 HLO HM2 R2 m0 m1
  cases q
  case true =>
    go_wp2_with fail
    go_ret
    exact ⟨rfl, R3.out⟩
  have hd := (HQ.out rfl).1
  have hf6 := (HQ.out rfl).2.1
  have hfew := (HQ.out rfl).2.2
  have HFW := Lib.hid hfew
  have HS := Lib.hid (LongM.small HRW.out (HQ.out rfl))
  have HF := Lib.hid (few_small HRW.out (HQ.out rfl).2.2)
  clear HQ HRW hfew
  obtain ⟨m0, m1⟩ := cells2 HM3.out
  have HCK := Lib.hid (vcheck_ok w3 m da fa dc fc (HMI.out.fr R3.out) HS.out HF.out)
  have HGD : Hid ((modFind m).2.2 = 0 → Good m) := Lib.hid modFind_good
  generalize (modFind m).2.2 = z at *
  go_wp2_with fail
  refine HCK.out.mono ?_
  rintro e w4 ⟨rfl, r4⟩
  have R4 := Lib.hid (R3.out.trans r4)
  have HM4 := Lib.hid (r4.heap HM3.out (by simp))
  clear r4 HCK HM3 R3 m0 m1
  by_cases hz : z = 0
  case neg =>
    have e1 : (z != 0) = true := by simpa using hz
    clear hz
    go_wp2_with fail
    go_ret
    exact ⟨rfl, R4.out⟩
  have HG := Lib.hid (HGD.out hz)
  have e1 : (z != 0) = false := by simpa using hz
  have hpos : 0 < m.f.length := by have := (modCk_iff.1 HG.out.ck).2.1; omega
  have hpos' : ((m.f.length : Int) == 0) = false := by rw [beq_eq_false_iff_ne]; omega
  clear hz HGD
  obtain ⟨m0, m1⟩ := cells2 HM4.out
  have HCP := Lib.hid (copysep_ok w4 m da dc fa fc (HMI.out.fr R4.out) HS.out)
  go_wp2_with fail
  refine HCP.out.mono ?_
  rintro e w5 ⟨a, c, a', c', rfl, hown, r5⟩
  obtain ⟨h1o, l, h2o, h3o, h4o⟩ := hown
  have hll : l.length = m.f.length := by rw [← h2o]; simp
  have q6 := (Fr.refl no w5).alloc (.cells #[.slice a m.d.length c, .slice a' m.f.length c'] 38)
  have HX6 : Hid (MX w (w5.alloc (.cells #[.slice a m.d.length c, .slice a' m.f.length c'] 38)) w4.heap.size w5.heap.size a a' c c' m.d l) := Lib.hid
    ⟨by rw [hll]; exact heap_new w5 _, owns_fr h1o q6 (by simp), by rw [hll]; exact h3o.fn q6, (R4.out.trans r5).trans q6, R4.out.size, (R4.out.trans r5).size⟩
  have HLL := Lib.hid hll
  have HLF := Lib.hid h2o
  have HSEP := Lib.hid h4o
  have hl6 : l.length ≤ 6 := by omega
  have hlpos : 0 < l.length := by omega
  clear h1o h2o h3o h4o r5 q6 HCP HM4 m0 m1 hll
  go_upto_region 5 with fail
  rw [← HLL.out] at HX6 ⊢
  clear hpos hpos'
  generalize w5.alloc (.cells #[.slice a m.d.length c, .slice a' l.length c'] 38) = w6 at *
  generalize w5.heap.size = b0 at *
  generalize w4.heap.size = base at *
  obtain ⟨n0, n1⟩ := cells2 HX6.out.obj
  have HPK := Lib.hid (fun w => pick_det w which l.length (by omega) (by omega))
  have ht := pkN_lt which l.length (by omega)
  generalize pkN which l.length = f at *
  go_wp2_with fail
  refine (HPK.out _).mono ?_
  rintro e w7 ⟨rfl, rfl⟩
  obtain ⟨g, o, rfl, hat⟩ := HX6.out.fns.at ht
  obtain ⟨p, hp⟩ : ∃ p, p = l[f] := ⟨_, rfl⟩
  have HLP : Hid (l[f]? = some p) := Lib.hid (by rw [hp]; exact List.getElem?_eq_getElem ht)
  rw [← hp] at hat
  have d3 := hat 3 _ rfl
  obtain ⟨⟨fp, fr', far, is⟩, ca, cc⟩ := p
  have HFX : Hid (m.f[f]? = some ⟨fp, fr', far, is⟩) := Lib.hid (by rw [← HLF.out, List.getElem?_map, HLP.out]; rfl)
  have hmem := List.mem_of_getElem? HFX.out
  have hn60 : is.length ≤ 60 := (HFW.out _ hmem).1
  have hnpos : 0 < is.length := by
    have := (flowCk_flows (HG.out.fns _ hmem).flow).pos
    rwa [fis_len] at this
  have hn0 : ((is.length : Int) == 0) = false := by rw [beq_eq_false_iff_ne]; omega
  have ht' : (f : Int) < l.length := by omega
  unfold FxV.val at d3
  dsimp only at d3
  clear hat hp hmem
  have HPK2 := Lib.hid (fun w => pick_det w place is.length (by omega) (by omega))
  have hti := pkN_lt place is.length (by omega)
  generalize pkN place is.length = i at *
  have hti' : (i : Int) < is.length := by omega
  obtain ⟨ix, hix⟩ : ∃ x, x = is[i] := ⟨_, rfl⟩
  have HIX : Hid (is[i]? = some ix) := Lib.hid (by rw [hix]; exact List.getElem?_eq_getElem hti)
  clear hix
  obtain ⟨cb, co, e0, dop, dnum, dfz, T0'⟩ := HX6.out.turn' HSEP.out f i _ ix HLP.out HIX.out
  have T0 := Lib.hid T0'
  clear T0'
  dsimp only at e0
  subst e0
  go_wp2_with fail
  refine (HPK2.out _).mono ?_
  rintro e w7 ⟨rfl, rfl⟩
  by_cases h28 : ix.o = 28
  · have h28' : (ix.o == 28) = true := by simpa using h28
    go_upto_region 11 with fail
    have HN : Hid (modFind (turnM m f i (l.length : Int) ⟨fp, fr', far, is⟩ ix) = ((f : Int), (i : Int), 13)) := Lib.hid (HG.out.turned' hd hf6 f i _ ix HFX.out HIX.out (l.length : Int) 13 (.inl ⟨h28, by rw [HLL.out], rfl⟩))
    have hd6 := (Fr.refl no w6).drew
    have c1 : (w6.drew).cell? ⟨b0, 1, none⟩ = some (.slice (some ⟨g, o, none⟩) l.length c') := hd6.cell n1 (by simp)
    have c0 : (w6.drew).cell? ⟨b0, 0, none⟩ = some (.slice a m.d.length c) := hd6.cell n0 (by simp)
    have c3 : (w6.drew).cell? ⟨g, o + f * 4 + 3, none⟩ = some (.slice (some ⟨cb, co, none⟩) is.length cc) := hd6.cell d3 (by simp)
    have HT := Lib.hid ((T0.out (l.length : Int)).to ((Fr.refl no _).drew))
    have HSM := Lib.hid (turn_small (N' := (l.length : Int)) HS.out HF.out HFX.out HIX.out (by unfold rng; omega))
    clear hd6 dop T0
    refine Lex.region [12] [10, 3] (by kernel_rfl) (by kernel_rfl) ?_
    refine Lex.opens (fun w' => w'.cell? ⟨b0, 0, none⟩ = some (.slice a m.d.length c) ∧ w'.cell? ⟨b0, 1, none⟩ = some (.slice (some ⟨g, o, none⟩) l.length c') ∧ w'.cell? ⟨g, o + f * 4 + 3, none⟩ = some (.slice (some ⟨cb, co, none⟩) is.length cc)) (⟨c0, c1, c3⟩) ?_
    repeat (first
      | (refine Lex.skips (by rfl) ?_; (try simp only [Act.put, List.setIfInBounds_toArray, List.set_cons_zero, List.set_cons_succ]))
      | (refine Lex.quiet (v := ?_) (by rfl) (by rfl) ?_ ?_; rotate_left; (focus (intro w' hS'; go_simp; try rfl)); (try simp only [Act.put, List.setIfInBounds_toArray, List.set_cons_zero, List.set_cons_succ])))
    refine Lex.done ?_
    refine Lex.opens (fun _ => True) (trivial) ?_
    repeat (first
      | (refine Lex.skips (by rfl) ?_; (try simp only [Act.put, List.setIfInBounds_toArray, List.set_cons_zero, List.set_cons_succ]))
      | (refine Lex.quiet (v := ?_) (by rfl) (by rfl) ?_ ?_; rotate_left; (focus (intro w' hS'; go_simp; try rfl)); (try simp only [Act.put, List.setIfInBounds_toArray, List.set_cons_zero, List.set_cons_succ])))
    refine Lex.loud (by rfl) (by rfl) ?_
    intro K' hK'
    go_simp
    refine hK' _ _ (trivial) ?_
    clear hK'
    try simp only [Act.put, List.setIfInBounds_toArray, List.set_cons_zero, List.set_cons_succ]
    refine Lex.done ?_
    refine Lex.ends ?_
    try rw [show IntKind.i64.wrap ((m.d.length : Int) + 1) = (m.d.length : Int) + 1 from by rw [IntKind.wrap_i64]; omega]
    clear c0 c1 c3 dnum dfz n0 n1 d3
    generalize (w6.setCell ⟨cb, co + i * 6 + 4, none⟩ (.int .i64 (l.length : Int))).drew = w8 at *
    have HMX : Hid (ModIn w8 (turnM m f i (l.length : Int) ⟨fp, fr', far, is⟩ ix) a c (some ⟨g, o, none⟩)) := Lib.hid (by
      have := HT.out.mod
      rw [List.map_set, HLF.out] at this
      exact this)
    have HFD := Lib.hid (found_yes w8 _ a (some ⟨g, o, none⟩) c c' f i 13 HMX.out HSM.out.1 HSM.out.2 HN.out)
    rw [show (turnM m f i (l.length : Int) ⟨fp, fr', far, is⟩ ix).d.length = m.d.length from rfl, show (turnM m f i (l.length : Int) ⟨fp, fr', far, is⟩ ix).f.length = l.length from by rw [HLL.out]; simp [turnM]] at HFD
    have R8 := Lib.hid HT.out.fr
    have ob := HT.out.obj
    rw [List.length_set] at ob
    obtain ⟨n0, n1⟩ := cells2 ob
    clear ob HT
    go_wp2_with fail
    refine HFD.out.mono ?_
    rintro e w9 ⟨rfl, r9⟩
    have R9 := Lib.hid (R8.out.trans r9)
    clear r9 n0 n1
    go_wp2_with fail
    go_ret
    exact ⟨rfl, R9.out⟩
  have h28' : (ix.o == 28) = false := by simpa using h28
  by_cases h24 : ix.o = 24
  · have h24' : (ix.o == 24) = true := by simpa using h24
    go_upto_region 14 with fail
    have HN : Hid (modFind (turnM m f i ((m.d.length : Int) + 1) ⟨fp, fr', far, is⟩ ix) = ((f : Int), (i : Int), 5)) := Lib.hid (HG.out.turned' hd hf6 f i _ ix HFX.out HIX.out ((m.d.length : Int) + 1) 5 (.inr ⟨h24, rfl, rfl⟩))
    have hd6 := (Fr.refl no w6).drew
    have c1 : (w6.drew).cell? ⟨b0, 1, none⟩ = some (.slice (some ⟨g, o, none⟩) l.length c') := hd6.cell n1 (by simp)
    have c0 : (w6.drew).cell? ⟨b0, 0, none⟩ = some (.slice a m.d.length c) := hd6.cell n0 (by simp)
    have c3 : (w6.drew).cell? ⟨g, o + f * 4 + 3, none⟩ = some (.slice (some ⟨cb, co, none⟩) is.length cc) := hd6.cell d3 (by simp)
    have HT := Lib.hid ((T0.out ((m.d.length : Int) + 1)).to ((Fr.refl no _).drew))
    have HSM := Lib.hid (turn_small (N' := ((m.d.length : Int) + 1)) HS.out HF.out HFX.out HIX.out (by unfold rng; omega))
    clear hd6 dop T0
    refine Lex.region [13] [11, 3] (by kernel_rfl) (by kernel_rfl) ?_
    refine Lex.opens (fun w' => w'.cell? ⟨b0, 0, none⟩ = some (.slice a m.d.length c) ∧ w'.cell? ⟨b0, 1, none⟩ = some (.slice (some ⟨g, o, none⟩) l.length c') ∧ w'.cell? ⟨g, o + f * 4 + 3, none⟩ = some (.slice (some ⟨cb, co, none⟩) is.length cc)) (⟨c0, c1, c3⟩) ?_
    repeat (first
      | (refine Lex.skips (by rfl) ?_; (try simp only [Act.put, List.setIfInBounds_toArray, List.set_cons_zero, List.set_cons_succ]))
      | (refine Lex.quiet (v := ?_) (by rfl) (by rfl) ?_ ?_; rotate_left; (focus (intro w' hS'; go_simp; try rfl)); (try simp only [Act.put, List.setIfInBounds_toArray, List.set_cons_zero, List.set_cons_succ])))
    refine Lex.done ?_
    refine Lex.opens (fun _ => True) (trivial) ?_
    repeat (first
      | (refine Lex.skips (by rfl) ?_; (try simp only [Act.put, List.setIfInBounds_toArray, List.set_cons_zero, List.set_cons_succ]))
      | (refine Lex.quiet (v := ?_) (by rfl) (by rfl) ?_ ?_; rotate_left; (focus (intro w' hS'; go_simp; try rfl)); (try simp only [Act.put, List.setIfInBounds_toArray, List.set_cons_zero, List.set_cons_succ])))
    refine Lex.loud (by rfl) (by rfl) ?_
    intro K' hK'
    go_simp
    refine hK' _ _ (trivial) ?_
    clear hK'
    try simp only [Act.put, List.setIfInBounds_toArray, List.set_cons_zero, List.set_cons_succ]
    refine Lex.done ?_
    refine Lex.ends ?_
    try rw [show IntKind.i64.wrap ((m.d.length : Int) + 1) = (m.d.length : Int) + 1 from by rw [IntKind.wrap_i64]; omega]
    clear c0 c1 c3 dnum dfz n0 n1 d3
    generalize (w6.setCell ⟨cb, co + i * 6 + 4, none⟩ (.int .i64 ((m.d.length : Int) + 1))).drew = w8 at *
    have HMX : Hid (ModIn w8 (turnM m f i ((m.d.length : Int) + 1) ⟨fp, fr', far, is⟩ ix) a c (some ⟨g, o, none⟩)) := Lib.hid (by
      have := HT.out.mod
      rw [List.map_set, HLF.out] at this
      exact this)
    have HFD := Lib.hid (found_yes w8 _ a (some ⟨g, o, none⟩) c c' f i 5 HMX.out HSM.out.1 HSM.out.2 HN.out)
    rw [show (turnM m f i ((m.d.length : Int) + 1) ⟨fp, fr', far, is⟩ ix).d.length = m.d.length from rfl, show (turnM m f i ((m.d.length : Int) + 1) ⟨fp, fr', far, is⟩ ix).f.length = l.length from by rw [HLL.out]; simp [turnM]] at HFD
    have R8 := Lib.hid HT.out.fr
    have ob := HT.out.obj
    rw [List.length_set] at ob
    obtain ⟨n0, n1⟩ := cells2 ob
    clear ob HT
    go_wp2_with fail
    refine HFD.out.mono ?_
    rintro e w9 ⟨rfl, r9⟩
    have R9 := Lib.hid (R8.out.trans r9)
    clear r9 n0 n1
    go_wp2_with fail
    go_ret
    exact ⟨rfl, R9.out⟩
  have h24' : (ix.o == 24) = false := by simpa using h24
  have HMX : Hid (ModIn w6 m a c (some ⟨g, o, none⟩)) := Lib.hid (by
    have := HX6.out.mod
    rw [HLF.out] at this
    exact this)
  have HFD := Lib.hid (found_yes w6 m a (some ⟨g, o, none⟩) c c' (-1) (-1) 0 HMX.out HS.out HF.out HG.out.find)
  rw [← HLL.out] at HFD
  have R6 := Lib.hid HX6.out.fr
  go_wp2_with fail
  refine HFD.out.mono ?_
  rintro e w9 ⟨rfl, r9⟩
  have R9 := Lib.hid (R6.out.trans r9)
  clear r9 n0 n1
  go_wp2_with fail
  go_ret
  exact ⟨rfl, R9.out⟩

theorem turned12_rd (w : World) (s0 : Array Value) {n0 : Nat} {d0 : Dt} (h0 : Rd Tryz.prog w n0 38 s0.toList d0) (which place : Int) :
    Calls Tryz.prog 8 #[.agg s0, .int .i64 which, .int .i64 place] w fun e w' => e = .returned (.bool true) ∧ Fr no w w' := by
  obtain ⟨m, da, dc, fa, fc, hs, hm, hr⟩ := mod_of h0
  obtain rfl : s0 = #[.slice da m.d.length dc, .slice fa m.f.length fc] := Array.ext' hs
  exact turned12_ok w m da fa dc fc hm hr which place

end Go.Proofs.YtofahdjnejodjaaGreat

import Derived.Test.YtihnkijeefkefaaGreatQ16
set_option linter.unusedSimpArgs false
set_option linter.unusedVariables false
set_option linter.unusedSectionVars false
set_option linter.unnecessarySimpa false
set_option maxRecDepth 100000
/- The program's space: Call that may be. -/
namespace Go.Proofs.YtihnkijeefkefaaGreat
open Go.RowKit

attribute [local go_sem] Program.isFuncB Program.isSliceB

variable {w w' w'' w0 : World} {O R : Nat → Prop} {p : Nat} {s s' : Zp} {z : Pz}

section
variable {aa : Option Addr} {ac : Nat} {ar : List Int} {f res back : Int}
set_option maxHeartbeats 8000000 in
theorem scall_fa (w : World) (h : SpAt w O R p s z) (he : s.e.1 = 0) (hf : s.badF f ar.length = false) (hr : s.badR ar res back = false) (hfl : s.full f = true) (hv : Reads w (.slice aa ar.length ac) 1 ar.length (ints ar)) (hA : s.at_ < flr s.m + fsz (fnOf s.m f.toNat)) : Calls Tryz.prog 18 #[.pointer (some ⟨p, 0, none⟩), .int .i64 f, .slice aa ar.length ac, .int .i64 res, .int .i64 back] w fun e w' => e = .returned (.int .i64 0) ∧ SpTo w w' O R p { s with e := (3, 0) } := by
  have r0 := (Fr.refl no w).alloc (.cells #[.pointer (some ⟨p, 0, none⟩)] 30)
  have HB := Lib.hid (heap_new w (.cells #[.pointer (some ⟨p, 0, none⟩)] 30))
  have HA := Lib.hid (sasked_ok _ (h.fr r0))
  have H := Lib.hid (h.fr r0)
  have R0 := Lib.hid r0
  clear r0
  have HE := Lib.hid (ask_0 he)
  have HV := Lib.hid hv
  have HEE := Lib.hid he
  simp only [Zp.badF, decide_eq_false_iff_not, not_or] at hf
  have h1 : ¬ f < 0 := hf.1
  have h2 : ¬ f ≥ s.m.f.length := by omega
  obtain ⟨k, rfl⟩ : ∃ k : Nat, f = k := ⟨f.toNat, by omega⟩
  have hk : k < s.m.f.length := by omega
  have hne : ((ar.length : Int) != (fnOf s.m k).p) = false := by
    rw [bne_eq_false_iff_eq]
    have := hf.2.2
    simpa using this
  have C5 : Hid (∀ w', SpAt w' O R p s z → w'.cell? ⟨p, 5, none⟩ = some (.slice z.fa s.m.f.length z.fc)) := Lib.hid (fun w' h' => cell_of_heap h'.obj rfl)
  have FN : Hid (∀ w', SpAt w' O R p s z → ∃ b o, z.fa = some ⟨b, o, none⟩ ∧ w'.cell? ⟨b, o + k * 4, none⟩ = some (.int .i64 (fnOf s.m k).p)) := Lib.hid (fun w' h' => by
    obtain ⟨b, o, e1, e2, -⟩ := h'.fn hk
    exact ⟨b, o, e1, e2⟩)
  simp only [Zp.badR, Bool.or_eq_false_iff, Bool.not_eq_false'] at hr
  obtain ⟨⟨hres, hb⟩, hany⟩ := hr
  have c4 := fnOf_ck h.ok.ck hk
  have hal8 : ar.length ≤ 8 := by have := hf.2.2; simp at this; omega
  have hal : ar.length ≤ 1000000 := by omega
  have HARS : Hid (∀ r ∈ ar, s.rg r = true) := Lib.hid (fun r hr => by
    have := List.any_eq_false.1 hany r hr
    simpa using this)
  obtain ⟨rn, hrn⟩ : ∃ rn : Nat, (fnOf s.m k).r = rn := ⟨(fnOf s.m k).r.toNat, by omega⟩
  obtain ⟨an, han⟩ : ∃ an : Nat, (fnOf s.m k).a = an := ⟨(fnOf s.m k).a.toNat, by omega⟩
  have hrn64 : rn ≤ 64 := by omega
  have han96 : an ≤ 4096 := by omega
  have HFS : Hid (fsz (fnOf s.m k) = r16 (8 * rn + an)) := Lib.hid (by rw [fsz_r16 (by omega) (by omega), hrn, han]; rfl)
  have FAT : Hid (∀ w', SpAt w' O R p s z → ∃ b o ca cl cc, z.fa = some ⟨b, o, none⟩ ∧ At w' b (o + k * 4) [.int .i64 (fnOf s.m k).p, .int .i64 rn, .int .i64 an, .slice ca cl cc]) := Lib.hid (fun w' h' => by
    obtain ⟨b, o, ca, cl, cc, e1, e2⟩ := h'.fnAt hk
    refine ⟨b, o, ca, cl, cc, e1, ?_⟩
    rw [← hrn, ← han]
    exact e2)
  have SC : Hid (∀ w' : World, ∀ fb, SpAt w' O R p s z → w'.heap[w.heap.size]? = some (.cells #[.pointer (some ⟨p, 0, none⟩)] 30 (0, 0)) → (∀ q u, w'.heap[fb]? = some (.cells #[.int .i64 q, .int .i64 rn, .int .i64 an, u] 41 (0, 0)) →
      (fun w' : World => w'.cell? ⟨w.heap.size, 0, none⟩ = some (.pointer (some ⟨p, 0, none⟩)) ∧ w'.cell? ⟨p, 12, none⟩ = some (.int .u64 s.at_) ∧ w'.cell? ⟨p, 11, none⟩ = some (.int .u64 (flr s.m)) ∧ w'.cell? ⟨fb, 1, none⟩ = some (.int .i64 rn) ∧ w'.cell? ⟨fb, 2, none⟩ = some (.int .i64 an)) w')) :=
    Lib.hid (fun w' fb h' hb' q u hf' => ⟨cell_of_heap hb' rfl, cell_of_heap h'.obj rfl, cell_of_heap h'.obj rfl, cell_of_heap hf' rfl, cell_of_heap hf' rfl⟩)
  have HLT := Lib.hid h.lt
  have HAT := Lib.hid h.ok.al
  have HBL := Lib.hid h.ok.bl
  have HA16 := Lib.hid h.ok.a16
  have HLO := Lib.hid h.ok.lo
  have HF16 := Lib.hid (flr_16 s.m)
  have HLL := Lib.hid h.ok.ll
  have HOKS := Lib.hid h.ok
  have HFL := Lib.hid hfl
  simp only [Zp.full, Int.toNat_natCast, HFS.out] at hfl hA
  have HOK : Hid (({ s with e := (3, 0) } : Zp).Ok) := Lib.hid (h.ok.fix rfl rfl h.ok.bb rfl h.ok.ip rfl rfl rfl h.ok.f0 h.ok.f1 h.ok.pl (.inr rfl) (fun h0 => by simp at h0))
  have HKV := Lib.hid (owns_shape h.links)
  clear h he hf hv hrn han hk c4
  have HPC := Lib.hid hA
  clear hA hfl
  go_enter Tryz.func18, Tryz.ntmps18
  go_wp2_with fail
  refine HA.out.mono ?_
  rintro e w1 ⟨rfl, r1⟩
  rw [HE.out]
  have R1 := Lib.hid (R0.out.trans r1)
  have H1 := Lib.hid (H.out.fr r1)
  have HB1 := Lib.hid (r1.heap HB.out (by simp))
  have c0 : w1.cell? ⟨w.heap.size, 0, none⟩ = some (.pointer (some ⟨p, 0, none⟩)) := cell_of_heap HB1.out rfl
  clear r1
  have c5 := C5.out _ H1.out
  obtain ⟨b, ob, hfa, cp⟩ := FN.out _ H1.out
  rw [hfa] at c5
  go_wp2_with fail
  refine (lacks_ok _ res _ _ HB1.out H1.out).mono ?_
  rintro e w2 ⟨rfl, r2⟩
  rw [hres]
  have R2 := Lib.hid (R1.out.trans r2)
  have H2 := Lib.hid (H1.out.fr r2)
  have HB2 := Lib.hid (r2.heap HB1.out (by simp))
  clear r2
  go_wp2_with fail
  refine (splace_ok _ back).mono ?_
  rintro e w3 ⟨rfl, rfl⟩
  have R3 := Lib.hid R2.out
  have H3 := Lib.hid H2.out
  have HB3 := Lib.hid HB2.out
  rw [hb]
  go_wp2_with fail
  refine (containsf_ok _ _ ar _ _ (HV.out.fr R3.out (by simp)) hal HB3.out H3.out).mono ?_
  rintro e w4 ⟨rfl, r4⟩
  rw [hany]
  have R4 := Lib.hid (R3.out.trans r4)
  have H4 := Lib.hid (H3.out.fr r4)
  have HB4 := Lib.hid (r4.heap HB3.out (by simp))
  clear r4
  go_wp2_with fail
  go_loopw [13, 71] (fun x y wr => ∃ (j : Nat) (xa : Option Addr) (xc : Nat), j ≤ ar.length ∧ y = .int .i64 j ∧ x = .slice xa j xc ∧ Hid (wr.ownsRow w.heap.size 34 1 (.slice xa j xc) j (u64s (s.argsS (ar.take j)))) ∧ Hid (Fr no w wr) ∧ Hid (SpAt wr O R p s z) ∧ Hid (wr.heap[w.heap.size]? = some (.cells #[.pointer (some ⟨p, 0, none⟩)] 30 (0, 0)))) (fun _ y _ => (ar.length - intOf y).toNat)
  case atStart => exact ⟨0, none, 0, by omega, by simp, by simp, Lib.hid (World.ownsRow_nil _ _ _ _), R4, H4, HB4⟩
  case round =>
    obtain ⟨j, xa, xc, hj, rfl, rfl, hown, hfr, hsp, htb⟩ := hrel
    by_cases hjl : j < ar.length
    · have hlt : (j : Int) < ar.length := by omega
      obtain ⟨vb, vo, rfl, hc⟩ := (HV.out.fr hfr.out (by simp)).at1 (k := j) (u := .int .i64 ar[j]) (by simp [ints, hjl])
      have hrg := HARS.out ar[j] (List.getElem_mem hjl)
      have HG := Lib.hid (sget_ok wr ar[j] hsp.out)
      have hgs : s.getS ar[j] = (rd8 s.b (s.at_ + 8 * (ar[j]).toNat), 0) := by simp [Zp.getS, HEE.out, hrg]
      rw [hgs] at HG
      have HNX : Hid (u64s (s.argsS (ar.take j)) ++ [.int .u64 (rd8 s.b (s.at_ + 8 * (ar[j]).toNat) : Nat)] = u64s (s.argsS (ar.take (j + 1)))) := Lib.hid (by rw [List.take_succ_eq_append_getElem hjl]; simp only [u64s, Zp.argsS, List.map_append, List.map_cons, List.map_nil])
      have ct := cell_of_heap (o := 0) htb.out rfl
      clear hgs
      generalize rd8 s.b (s.at_ + 8 * (ar[j]).toNat) = x at *
      generalize ar[j] = rj at *
      go_wp2_with fail
      refine HG.out.mono ?_
      rintro e w5 ⟨rfl, r5⟩
      have hfr5 := hfr.out.trans r5
      have OD := Lib.hid ((owns_fr hown.out r5 (by simp)).alloc (.cells #[.int .u64 (x : Int)] 34))
      have ra := (Fr.refl no w5).alloc (.cells #[.int .u64 (x : Int)] 34)
      have RA := Lib.hid (hfr5.trans ra)
      have HSA := Lib.hid ((hsp.out.fr r5).fr ra)
      have HTA := Lib.hid (ra.heap (r5.heap htb.out (by simp)) (by simp))
      clear ra hfr5 r5
      go_wp2_with (at_builtin; (refine wpList_append_at rfl (.tmp 84) _ 58 rfl w.heap.size 34 (.int .u64 0) 1 8 Tryz.underlying58 Tryz.infoU64 rfl (by decide) _ j _ rfl OD.out 1 [.int .u64 x] (reads_one _ _ _) int_one (by unfold maxLen; omega) (by omega) RA.out.size ?_); intro ga gc w6 ho hg hbk)
      have HO6 : Hid (w6.ownsRow w.heap.size 34 1 (.slice ga (j + 1) gc) (j + 1) (u64s (s.argsS (ar.take (j + 1))))) := Lib.hid (by rw [← HNX.out]; exact ho)
      have hge : ∀ i, (Value.slice xa j xc).ownBlock = some i → w.heap.size ≤ i := fun i hi => (OD.out.lt i hi).1
      have htu : ∀ i, (Value.slice xa j xc).ownBlock = some i → i ≠ w.heap.size := fun i hi e => by
        subst e; exact row_block_ne OD.out HTA.out (by decide) hi
      have hbs := H4.out.lt
      have hlt4 : ∀ i, O i ∨ R i → i < w.heap.size := HLT.out
      have rg := (Fr.refl (fun k => (Value.slice xa j xc).ownBlock = some k) _).grown hg (fun k hk => .inl hk)
      have R6 := Lib.hid (RA.out.trans' rg (fun k hk _ => hge k hk))
      have H6 := Lib.hid (HSA.out.frx rg (fun k hk _ => ⟨fun ho => by have := hge k hk; have := hlt4 k (.inl ho); omega, fun ho => by have := hge k hk; have := hlt4 k (.inr ho); omega⟩))
      have HT6 := Lib.hid (rg.heap HTA.out (fun e => htu _ e rfl))
      clear ho hg hbk hge htu hbs hlt4 rg
      go_roundw
      case rel => exact ⟨j + 1, ga, gc, by omega, by go_num, rfl, HO6, R6, H6, HT6⟩
      case measure => first | (simp [intOf]; done) | (simp [intOf]; omega)
    · obtain rfl : j = ar.length := by omega
      have HOW : Hid (wr.ownsRow w.heap.size 34 1 (.slice xa ar.length xc) ar.length (u64s (s.argsS ar))) := Lib.hid (by have := hown.out; rw [List.take_length] at this; exact this)
      have c0 : wr.cell? ⟨w.heap.size, 0, none⟩ = some (.pointer (some ⟨p, 0, none⟩)) := cell_of_heap htb.out rfl
      have c5 : wr.cell? ⟨p, 5, none⟩ = some (.slice z.fa s.m.f.length z.fc) := C5.out _ hsp.out
      obtain ⟨gb, go, gca, gcl, gcc, hfa2, hat⟩ := FAT.out _ hsp.out
      rw [hfa2] at c5
      have HAT2 := Lib.hid hat
      have hkl : (k : Int) < s.m.f.length := by omega
      clear hown hat hfa hfa2 cp
      go_upto_region 19 with (first | (refine wpList_load_in (o := ⟨some 96, .load 41 (.tmp 95), _, _, _, _⟩) rfl 41 (.tmp 95) rfl gb _ rfl _ _ HAT2.out Tryz.underlying41 rfl (by rw [Tryz.infoFn4]; rfl) ?_))
      have r5 := (Fr.refl no wr).alloc (.cells #[.int .i64 (fnOf s.m k).p, .int .i64 rn, .int .i64 an, .slice gca gcl gcc] 41)
      have hn5 := heap_new wr (.cells #[.int .i64 (fnOf s.m k).p, .int .i64 rn, .int .i64 an, .slice gca gcl gcc] 41)
      generalize wr.alloc (.cells #[.int .i64 (fnOf s.m k).p, .int .i64 rn, .int .i64 an, .slice gca gcl gcc] 41) = w5 at *
      have rd := r5.drew
      have H5 := Lib.hid (hsp.out.fr rd)
      have R5 := Lib.hid (hfr.out.trans rd)
      have HB5 := Lib.hid (rd.heap htb.out (by simp))
      have HN5 := Lib.hid ((Fr.refl no w5).drew.heap hn5 (by simp))
      have HW5 := Lib.hid (owns_fr HOW.out rd (by simp))
      have S5 := Lib.hid (SC.out _ wr.heap.size H5.out HB5.out _ _ HN5.out)
      have L5 : Hid (∀ w', SpAt w' O R p s z → w'.cell? ⟨p, 15, none⟩ = some z.kv) := Lib.hid (fun w' h' => cell_of_heap h'.obj rfl)
      clear r5 hn5 rd hsp hfr htb HOW c0 c5
      refine Lex.region [12] [17, 1] (by kernel_rfl) (by kernel_rfl) ?_
      refine Lex.opens (fun w' => w'.cell? ⟨w.heap.size, 0, none⟩ = some (.pointer (some ⟨p, 0, none⟩)) ∧ w'.cell? ⟨p, 12, none⟩ = some (.int .u64 s.at_) ∧ w'.cell? ⟨p, 11, none⟩ = some (.int .u64 (flr s.m)) ∧ w'.cell? ⟨wr.heap.size, 1, none⟩ = some (.int .i64 rn) ∧ w'.cell? ⟨wr.heap.size, 2, none⟩ = some (.int .i64 an)) (S5.out) ?_
      repeat (first
        | (refine Lex.skips (by rfl) ?_; (try simp only [Act.put, List.setIfInBounds_toArray, List.set_cons_zero, List.set_cons_succ]))
        | (refine Lex.quiet (v := ?_) (by rfl) (by rfl) ?_ ?_; rotate_left; (focus (intro w' hS'; go_simp; try rfl)); (try simp only [Act.put, List.setIfInBounds_toArray, List.set_cons_zero, List.set_cons_succ])))
      refine Lex.loud (by rfl) (by rfl) ?_
      intro K' hK'
      go_simp
      refine (push_full _ s.at_ (flr s.m) rn an hrn64 han96 HA16.out (by have := HAT.out; have := HBL.out; omega) HF16.out (by have := HAT.out; have := HBL.out; have := HLO.out; omega) HPC.out).mono ?_
      rintro e w' ⟨rfl, rfl⟩
      refine hK' _ _ (S5.out) ?_
      clear hK'
      try simp only [Act.put, List.setIfInBounds_toArray, List.set_cons_zero, List.set_cons_succ]
      repeat (first
        | (refine Lex.skips (by rfl) ?_; (try simp only [Act.put, List.setIfInBounds_toArray, List.set_cons_zero, List.set_cons_succ]))
        | (refine Lex.quiet (v := ?_) (by rfl) (by rfl) ?_ ?_; rotate_left; (focus (intro w' hS'; go_simp; try rfl)); (try simp only [Act.put, List.setIfInBounds_toArray, List.set_cons_zero, List.set_cons_succ])))
      refine Lex.done ?_
      refine Lex.opens (fun w' => True) (trivial) ?_
      repeat (first
        | (refine Lex.skips (by rfl) ?_; (try simp only [Act.put, List.setIfInBounds_toArray, List.set_cons_zero, List.set_cons_succ]))
        | (refine Lex.quiet (v := ?_) (by rfl) (by rfl) ?_ ?_; rotate_left; (focus (intro w' hS'; go_simp; try rfl)); (try simp only [Act.put, List.setIfInBounds_toArray, List.set_cons_zero, List.set_cons_succ])))
      refine Lex.done ?_
      refine Lex.ends ?_
      generalize w5.drew = w6 at *
      have c0 : w6.cell? ⟨w.heap.size, 0, none⟩ = some (.pointer (some ⟨p, 0, none⟩)) := cell_of_heap HB5.out rfl
      have HT := Lib.hid (there_of (o := 16) (n := 2) H5.out.obj (show 16 + 2 ≤ 18 from by decide))
      have HS := Lib.hid (H5.out.endS (3, 0) HOK.out)
      go_upto_region 21 with (fail)
      go_wp2_with ((refine wpList_store_mid (op := ⟨none, .store 43 (.tmp 126) (.tmp 124), _, _, _, _⟩) rfl 43 (.tmp 126) (.tmp 124) rfl p 16 #[.int .i64 3, .int .i64 0] rfl rfl HT.out (by rw [Tryz.infoEnd]; rfl) (by simp [Value.oneCell']) ?_; rw [act_put_none]))
      go_ret
      exact ⟨rfl, (HS.out.1.to HS.out.2).pre R5.out⟩
set_option maxHeartbeats 8000000 in
theorem scall_fb (w : World) (h : SpAt w O R p s z) (he : s.e.1 = 0) (hf : s.badF f ar.length = false) (hr : s.badR ar res back = false) (hfl : s.full f = true) (hv : Reads w (.slice aa ar.length ac) 1 ar.length (ints ar)) (hA : ¬ s.at_ < flr s.m + fsz (fnOf s.m f.toNat)) : Calls Tryz.prog 18 #[.pointer (some ⟨p, 0, none⟩), .int .i64 f, .slice aa ar.length ac, .int .i64 res, .int .i64 back] w fun e w' => e = .returned (.int .i64 0) ∧ SpTo w w' O R p { s with e := (3, 0) } := by
  have r0 := (Fr.refl no w).alloc (.cells #[.pointer (some ⟨p, 0, none⟩)] 30)
  have HB := Lib.hid (heap_new w (.cells #[.pointer (some ⟨p, 0, none⟩)] 30))
  have HA := Lib.hid (sasked_ok _ (h.fr r0))
  have H := Lib.hid (h.fr r0)
  have R0 := Lib.hid r0
  clear r0
  have HE := Lib.hid (ask_0 he)
  have HV := Lib.hid hv
  have HEE := Lib.hid he
  simp only [Zp.badF, decide_eq_false_iff_not, not_or] at hf
  have h1 : ¬ f < 0 := hf.1
  have h2 : ¬ f ≥ s.m.f.length := by omega
  obtain ⟨k, rfl⟩ : ∃ k : Nat, f = k := ⟨f.toNat, by omega⟩
  have hk : k < s.m.f.length := by omega
  have hne : ((ar.length : Int) != (fnOf s.m k).p) = false := by
    rw [bne_eq_false_iff_eq]
    have := hf.2.2
    simpa using this
  have C5 : Hid (∀ w', SpAt w' O R p s z → w'.cell? ⟨p, 5, none⟩ = some (.slice z.fa s.m.f.length z.fc)) := Lib.hid (fun w' h' => cell_of_heap h'.obj rfl)
  have FN : Hid (∀ w', SpAt w' O R p s z → ∃ b o, z.fa = some ⟨b, o, none⟩ ∧ w'.cell? ⟨b, o + k * 4, none⟩ = some (.int .i64 (fnOf s.m k).p)) := Lib.hid (fun w' h' => by
    obtain ⟨b, o, e1, e2, -⟩ := h'.fn hk
    exact ⟨b, o, e1, e2⟩)
  simp only [Zp.badR, Bool.or_eq_false_iff, Bool.not_eq_false'] at hr
  obtain ⟨⟨hres, hb⟩, hany⟩ := hr
  have c4 := fnOf_ck h.ok.ck hk
  have hal8 : ar.length ≤ 8 := by have := hf.2.2; simp at this; omega
  have hal : ar.length ≤ 1000000 := by omega
  have HARS : Hid (∀ r ∈ ar, s.rg r = true) := Lib.hid (fun r hr => by
    have := List.any_eq_false.1 hany r hr
    simpa using this)
  obtain ⟨rn, hrn⟩ : ∃ rn : Nat, (fnOf s.m k).r = rn := ⟨(fnOf s.m k).r.toNat, by omega⟩
  obtain ⟨an, han⟩ : ∃ an : Nat, (fnOf s.m k).a = an := ⟨(fnOf s.m k).a.toNat, by omega⟩
  have hrn64 : rn ≤ 64 := by omega
  have han96 : an ≤ 4096 := by omega
  have HFS : Hid (fsz (fnOf s.m k) = r16 (8 * rn + an)) := Lib.hid (by rw [fsz_r16 (by omega) (by omega), hrn, han]; rfl)
  have FAT : Hid (∀ w', SpAt w' O R p s z → ∃ b o ca cl cc, z.fa = some ⟨b, o, none⟩ ∧ At w' b (o + k * 4) [.int .i64 (fnOf s.m k).p, .int .i64 rn, .int .i64 an, .slice ca cl cc]) := Lib.hid (fun w' h' => by
    obtain ⟨b, o, ca, cl, cc, e1, e2⟩ := h'.fnAt hk
    refine ⟨b, o, ca, cl, cc, e1, ?_⟩
    rw [← hrn, ← han]
    exact e2)
  have SC : Hid (∀ w' : World, ∀ fb, SpAt w' O R p s z → w'.heap[w.heap.size]? = some (.cells #[.pointer (some ⟨p, 0, none⟩)] 30 (0, 0)) → (∀ q u, w'.heap[fb]? = some (.cells #[.int .i64 q, .int .i64 rn, .int .i64 an, u] 41 (0, 0)) →
      (fun w' : World => w'.cell? ⟨w.heap.size, 0, none⟩ = some (.pointer (some ⟨p, 0, none⟩)) ∧ w'.cell? ⟨p, 12, none⟩ = some (.int .u64 s.at_) ∧ w'.cell? ⟨p, 11, none⟩ = some (.int .u64 (flr s.m)) ∧ w'.cell? ⟨fb, 1, none⟩ = some (.int .i64 rn) ∧ w'.cell? ⟨fb, 2, none⟩ = some (.int .i64 an)) w')) :=
    Lib.hid (fun w' fb h' hb' q u hf' => ⟨cell_of_heap hb' rfl, cell_of_heap h'.obj rfl, cell_of_heap h'.obj rfl, cell_of_heap hf' rfl, cell_of_heap hf' rfl⟩)
  have HLT := Lib.hid h.lt
  have HAT := Lib.hid h.ok.al
  have HBL := Lib.hid h.ok.bl
  have HA16 := Lib.hid h.ok.a16
  have HLO := Lib.hid h.ok.lo
  have HF16 := Lib.hid (flr_16 s.m)
  have HLL := Lib.hid h.ok.ll
  have HOKS := Lib.hid h.ok
  have HFL := Lib.hid hfl
  simp only [Zp.full, Int.toNat_natCast, HFS.out] at hfl hA
  have HOK : Hid (({ s with e := (3, 0) } : Zp).Ok) := Lib.hid (h.ok.fix rfl rfl h.ok.bb rfl h.ok.ip rfl rfl rfl h.ok.f0 h.ok.f1 h.ok.pl (.inr rfl) (fun h0 => by simp at h0))
  have HKV := Lib.hid (owns_shape h.links)
  clear h he hf hv hrn han hk c4
  have HPC := Lib.hid hA
  have hge : ((s.ls.length : Nat) : Int) ≥ 256 := by
    have := (of_decide_eq_true hfl).resolve_left hA
    omega
  obtain ⟨ka, kc, hkv⟩ : ∃ ka kc, z.kv = .slice ka s.ls.length kc := HKV.out
  clear hA hfl
  go_enter Tryz.func18, Tryz.ntmps18
  go_wp2_with fail
  refine HA.out.mono ?_
  rintro e w1 ⟨rfl, r1⟩
  rw [HE.out]
  have R1 := Lib.hid (R0.out.trans r1)
  have H1 := Lib.hid (H.out.fr r1)
  have HB1 := Lib.hid (r1.heap HB.out (by simp))
  have c0 : w1.cell? ⟨w.heap.size, 0, none⟩ = some (.pointer (some ⟨p, 0, none⟩)) := cell_of_heap HB1.out rfl
  clear r1
  have c5 := C5.out _ H1.out
  obtain ⟨b, ob, hfa, cp⟩ := FN.out _ H1.out
  rw [hfa] at c5
  go_wp2_with fail
  refine (lacks_ok _ res _ _ HB1.out H1.out).mono ?_
  rintro e w2 ⟨rfl, r2⟩
  rw [hres]
  have R2 := Lib.hid (R1.out.trans r2)
  have H2 := Lib.hid (H1.out.fr r2)
  have HB2 := Lib.hid (r2.heap HB1.out (by simp))
  clear r2
  go_wp2_with fail
  refine (splace_ok _ back).mono ?_
  rintro e w3 ⟨rfl, rfl⟩
  have R3 := Lib.hid R2.out
  have H3 := Lib.hid H2.out
  have HB3 := Lib.hid HB2.out
  rw [hb]
  go_wp2_with fail
  refine (containsf_ok _ _ ar _ _ (HV.out.fr R3.out (by simp)) hal HB3.out H3.out).mono ?_
  rintro e w4 ⟨rfl, r4⟩
  rw [hany]
  have R4 := Lib.hid (R3.out.trans r4)
  have H4 := Lib.hid (H3.out.fr r4)
  have HB4 := Lib.hid (r4.heap HB3.out (by simp))
  clear r4
  go_wp2_with fail
  go_loopw [13, 71] (fun x y wr => ∃ (j : Nat) (xa : Option Addr) (xc : Nat), j ≤ ar.length ∧ y = .int .i64 j ∧ x = .slice xa j xc ∧ Hid (wr.ownsRow w.heap.size 34 1 (.slice xa j xc) j (u64s (s.argsS (ar.take j)))) ∧ Hid (Fr no w wr) ∧ Hid (SpAt wr O R p s z) ∧ Hid (wr.heap[w.heap.size]? = some (.cells #[.pointer (some ⟨p, 0, none⟩)] 30 (0, 0)))) (fun _ y _ => (ar.length - intOf y).toNat)
  case atStart => exact ⟨0, none, 0, by omega, by simp, by simp, Lib.hid (World.ownsRow_nil _ _ _ _), R4, H4, HB4⟩
  case round =>
    obtain ⟨j, xa, xc, hj, rfl, rfl, hown, hfr, hsp, htb⟩ := hrel
    by_cases hjl : j < ar.length
    · have hlt : (j : Int) < ar.length := by omega
      obtain ⟨vb, vo, rfl, hc⟩ := (HV.out.fr hfr.out (by simp)).at1 (k := j) (u := .int .i64 ar[j]) (by simp [ints, hjl])
      have hrg := HARS.out ar[j] (List.getElem_mem hjl)
      have HG := Lib.hid (sget_ok wr ar[j] hsp.out)
      have hgs : s.getS ar[j] = (rd8 s.b (s.at_ + 8 * (ar[j]).toNat), 0) := by simp [Zp.getS, HEE.out, hrg]
      rw [hgs] at HG
      have HNX : Hid (u64s (s.argsS (ar.take j)) ++ [.int .u64 (rd8 s.b (s.at_ + 8 * (ar[j]).toNat) : Nat)] = u64s (s.argsS (ar.take (j + 1)))) := Lib.hid (by rw [List.take_succ_eq_append_getElem hjl]; simp only [u64s, Zp.argsS, List.map_append, List.map_cons, List.map_nil])
      have ct := cell_of_heap (o := 0) htb.out rfl
      clear hgs
      generalize rd8 s.b (s.at_ + 8 * (ar[j]).toNat) = x at *
      generalize ar[j] = rj at *
      go_wp2_with fail
      refine HG.out.mono ?_
      rintro e w5 ⟨rfl, r5⟩
      have hfr5 := hfr.out.trans r5
      have OD := Lib.hid ((owns_fr hown.out r5 (by simp)).alloc (.cells #[.int .u64 (x : Int)] 34))
      have ra := (Fr.refl no w5).alloc (.cells #[.int .u64 (x : Int)] 34)
      have RA := Lib.hid (hfr5.trans ra)
      have HSA := Lib.hid ((hsp.out.fr r5).fr ra)
      have HTA := Lib.hid (ra.heap (r5.heap htb.out (by simp)) (by simp))
      clear ra hfr5 r5
      go_wp2_with (at_builtin; (refine wpList_append_at rfl (.tmp 84) _ 58 rfl w.heap.size 34 (.int .u64 0) 1 8 Tryz.underlying58 Tryz.infoU64 rfl (by decide) _ j _ rfl OD.out 1 [.int .u64 x] (reads_one _ _ _) int_one (by unfold maxLen; omega) (by omega) RA.out.size ?_); intro ga gc w6 ho hg hbk)
      have HO6 : Hid (w6.ownsRow w.heap.size 34 1 (.slice ga (j + 1) gc) (j + 1) (u64s (s.argsS (ar.take (j + 1))))) := Lib.hid (by rw [← HNX.out]; exact ho)
      have hge : ∀ i, (Value.slice xa j xc).ownBlock = some i → w.heap.size ≤ i := fun i hi => (OD.out.lt i hi).1
      have htu : ∀ i, (Value.slice xa j xc).ownBlock = some i → i ≠ w.heap.size := fun i hi e => by
        subst e; exact row_block_ne OD.out HTA.out (by decide) hi
      have hbs := H4.out.lt
      have hlt4 : ∀ i, O i ∨ R i → i < w.heap.size := HLT.out
      have rg := (Fr.refl (fun k => (Value.slice xa j xc).ownBlock = some k) _).grown hg (fun k hk => .inl hk)
      have R6 := Lib.hid (RA.out.trans' rg (fun k hk _ => hge k hk))
      have H6 := Lib.hid (HSA.out.frx rg (fun k hk _ => ⟨fun ho => by have := hge k hk; have := hlt4 k (.inl ho); omega, fun ho => by have := hge k hk; have := hlt4 k (.inr ho); omega⟩))
      have HT6 := Lib.hid (rg.heap HTA.out (fun e => htu _ e rfl))
      clear ho hg hbk hge htu hbs hlt4 rg
      go_roundw
      case rel => exact ⟨j + 1, ga, gc, by omega, by go_num, rfl, HO6, R6, H6, HT6⟩
      case measure => first | (simp [intOf]; done) | (simp [intOf]; omega)
    · obtain rfl : j = ar.length := by omega
      have HOW : Hid (wr.ownsRow w.heap.size 34 1 (.slice xa ar.length xc) ar.length (u64s (s.argsS ar))) := Lib.hid (by have := hown.out; rw [List.take_length] at this; exact this)
      have c0 : wr.cell? ⟨w.heap.size, 0, none⟩ = some (.pointer (some ⟨p, 0, none⟩)) := cell_of_heap htb.out rfl
      have c5 : wr.cell? ⟨p, 5, none⟩ = some (.slice z.fa s.m.f.length z.fc) := C5.out _ hsp.out
      obtain ⟨gb, go, gca, gcl, gcc, hfa2, hat⟩ := FAT.out _ hsp.out
      rw [hfa2] at c5
      have HAT2 := Lib.hid hat
      have hkl : (k : Int) < s.m.f.length := by omega
      clear hown hat hfa hfa2 cp
      go_upto_region 19 with (first | (refine wpList_load_in (o := ⟨some 96, .load 41 (.tmp 95), _, _, _, _⟩) rfl 41 (.tmp 95) rfl gb _ rfl _ _ HAT2.out Tryz.underlying41 rfl (by rw [Tryz.infoFn4]; rfl) ?_))
      have r5 := (Fr.refl no wr).alloc (.cells #[.int .i64 (fnOf s.m k).p, .int .i64 rn, .int .i64 an, .slice gca gcl gcc] 41)
      have hn5 := heap_new wr (.cells #[.int .i64 (fnOf s.m k).p, .int .i64 rn, .int .i64 an, .slice gca gcl gcc] 41)
      generalize wr.alloc (.cells #[.int .i64 (fnOf s.m k).p, .int .i64 rn, .int .i64 an, .slice gca gcl gcc] 41) = w5 at *
      have rd := r5.drew
      have H5 := Lib.hid (hsp.out.fr rd)
      have R5 := Lib.hid (hfr.out.trans rd)
      have HB5 := Lib.hid (rd.heap htb.out (by simp))
      have HN5 := Lib.hid ((Fr.refl no w5).drew.heap hn5 (by simp))
      have HW5 := Lib.hid (owns_fr HOW.out rd (by simp))
      have S5 := Lib.hid (SC.out _ wr.heap.size H5.out HB5.out _ _ HN5.out)
      have L5 : Hid (∀ w', SpAt w' O R p s z → w'.cell? ⟨p, 15, none⟩ = some z.kv) := Lib.hid (fun w' h' => cell_of_heap h'.obj rfl)
      clear r5 hn5 rd hsp hfr htb HOW c0 c5
      refine Lex.region [12] [17, 1] (by kernel_rfl) (by kernel_rfl) ?_
      refine Lex.opens (fun w' => w'.cell? ⟨w.heap.size, 0, none⟩ = some (.pointer (some ⟨p, 0, none⟩)) ∧ w'.cell? ⟨p, 12, none⟩ = some (.int .u64 s.at_) ∧ w'.cell? ⟨p, 11, none⟩ = some (.int .u64 (flr s.m)) ∧ w'.cell? ⟨wr.heap.size, 1, none⟩ = some (.int .i64 rn) ∧ w'.cell? ⟨wr.heap.size, 2, none⟩ = some (.int .i64 an)) (S5.out) ?_
      repeat (first
        | (refine Lex.skips (by rfl) ?_; (try simp only [Act.put, List.setIfInBounds_toArray, List.set_cons_zero, List.set_cons_succ]))
        | (refine Lex.quiet (v := ?_) (by rfl) (by rfl) ?_ ?_; rotate_left; (focus (intro w' hS'; go_simp; try rfl)); (try simp only [Act.put, List.setIfInBounds_toArray, List.set_cons_zero, List.set_cons_succ])))
      refine Lex.loud (by rfl) (by rfl) ?_
      intro K' hK'
      go_simp
      refine (push_room _ s.at_ (flr s.m) rn an hrn64 han96 HA16.out (by have := HAT.out; have := HBL.out; omega) HF16.out (by have := HAT.out; have := HBL.out; have := HLO.out; omega) HPC.out).mono ?_
      rintro e w' ⟨rfl, rfl⟩
      refine hK' _ _ (S5.out) ?_
      clear hK'
      try simp only [Act.put, List.setIfInBounds_toArray, List.set_cons_zero, List.set_cons_succ]
      repeat (first
        | (refine Lex.skips (by rfl) ?_; (try simp only [Act.put, List.setIfInBounds_toArray, List.set_cons_zero, List.set_cons_succ]))
        | (refine Lex.quiet (v := ?_) (by rfl) (by rfl) ?_ ?_; rotate_left; (focus (intro w' hS'; go_simp; try rfl)); (try simp only [Act.put, List.setIfInBounds_toArray, List.set_cons_zero, List.set_cons_succ])))
      refine Lex.done ?_
      refine Lex.opens (fun w' => True) (trivial) ?_
      repeat (first
        | (refine Lex.skips (by rfl) ?_; (try simp only [Act.put, List.setIfInBounds_toArray, List.set_cons_zero, List.set_cons_succ]))
        | (refine Lex.quiet (v := ?_) (by rfl) (by rfl) ?_ ?_; rotate_left; (focus (intro w' hS'; go_simp; try rfl)); (try simp only [Act.put, List.setIfInBounds_toArray, List.set_cons_zero, List.set_cons_succ])))
      refine Lex.done ?_
      refine Lex.ends ?_
      generalize w5.drew = w6 at *
      have c0 : w6.cell? ⟨w.heap.size, 0, none⟩ = some (.pointer (some ⟨p, 0, none⟩)) := cell_of_heap HB5.out rfl
      have HT := Lib.hid (there_of (o := 16) (n := 2) H5.out.obj (show 16 + 2 ≤ 18 from by decide))
      have HS := Lib.hid (H5.out.endS (3, 0) HOK.out)
      have c15 := L5.out _ H5.out
      rw [hkv] at c15
      go_upto_region 21 with (fail)
      go_wp2_with ((refine wpList_store_mid (op := ⟨none, .store 43 (.tmp 126) (.tmp 124), _, _, _, _⟩) rfl 43 (.tmp 126) (.tmp 124) rfl p 16 #[.int .i64 3, .int .i64 0] rfl rfl HT.out (by rw [Tryz.infoEnd]; rfl) (by simp [Value.oneCell']) ?_; rw [act_put_none]))
      go_ret
      exact ⟨rfl, (HS.out.1.to HS.out.2).pre R5.out⟩
theorem scall_f (w : World) (h : SpAt w O R p s z) (he : s.e.1 = 0) (hf : s.badF f ar.length = false) (hr : s.badR ar res back = false) (hfl : s.full f = true) (hv : Reads w (.slice aa ar.length ac) 1 ar.length (ints ar)) : Calls Tryz.prog 18 #[.pointer (some ⟨p, 0, none⟩), .int .i64 f, .slice aa ar.length ac, .int .i64 res, .int .i64 back] w fun e w' => e = .returned (.int .i64 0) ∧ SpTo w w' O R p { s with e := (3, 0) } := by
  by_cases hA : s.at_ < flr s.m + fsz (fnOf s.m f.toNat)
  · exact scall_fa w h he hf hr hfl hv hA
  · exact scall_fb w h he hf hr hfl hv hA
end

end Go.Proofs.YtihnkijeefkefaaGreat

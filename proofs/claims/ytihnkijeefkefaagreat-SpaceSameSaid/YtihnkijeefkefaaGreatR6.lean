import Derived.Test.YtihnkijeefkefaaGreatR5
import Derived.Test.YtihnkijeefkefaaGreatQ17L
set_option linter.unusedSimpArgs false
set_option linter.unusedVariables false
set_option linter.unusedSectionVars false
set_option linter.unnecessarySimpa false
set_option maxRecDepth 100000
/- The document's space: Call that may be. -/
namespace Go.Proofs.YtihnkijeefkefaaGreat
open Go.RowKit

attribute [local go_sem] Program.isFuncB Program.isSliceB

variable {w w' w'' w0 : World} {O R : Nat → Prop} {p : Nat} {s s' : Zp} {z : Rz}

theorem four_mix (a c d : Int) (b : Nat) : ∀ v ∈ [Value.int .i64 a, .int .u64 b, .int .i64 c, .int .i64 d], v.oneCell' = true := by
  intro v hv
  simp at hv
  rcases hv with rfl | rfl | rfl | rfl <;> rfl
section
variable {aa : Option Addr} {ac : Nat} {ar : List Int} {f res back : Int}
set_option maxHeartbeats 4000000 in
theorem rcall_fa (w : World) (h : RSpAt w O R p s z) (he : s.e.1 = 0) (hf : s.badF f ar.length = false) (hr : s.badR ar res back = false) (hfl : s.full f = true) (hv : Reads w (.slice aa ar.length ac) 1 ar.length (ints ar)) (hA : s.at_ < flr s.m + fsz (fnOf s.m f.toNat)) : Calls Tryz.prog 85 #[.pointer (some ⟨p, 0, none⟩), .int .i64 f, .slice aa ar.length ac, .int .i64 res, .int .i64 back] w fun e w' => e = .returned (.int .i64 0) ∧ RSpTo w w' O R p { s with e := (3, 0) } := by
  have c9 : w.cell? ⟨p, 9, none⟩ = some (.int .i64 s.e.1) := cell_of_heap h.obj rfl
  have H := Lib.hid h
  have HV := Lib.hid hv
  have HEE := Lib.hid he
  rw [he] at c9
  simp only [Zp.badF, decide_eq_false_iff_not, not_or] at hf
  have h1 : ¬ f < 0 := hf.1
  have h2 : ¬ f ≥ s.m.f.length := by omega
  obtain ⟨k, rfl⟩ : ∃ k : Nat, f = k := ⟨f.toNat, by omega⟩
  have hk : k < s.m.f.length := by omega
  have hne : ((ar.length : Int) != (fnOf s.m k).p) = false := by
    rw [bne_eq_false_iff_eq]
    have := hf.2.2
    simpa using this
  have c1 : w.cell? ⟨p, 1, none⟩ = some (.slice z.fa s.m.f.length z.fc) := cell_of_heap h.obj rfl
  obtain ⟨b, ob, hfa, cp, -⟩ := h.fn hk
  rw [hfa] at c1
  simp only [Zp.badR, Bool.or_eq_false_iff, Bool.not_eq_false'] at hr
  obtain ⟨⟨hres, hb⟩, hany⟩ := hr
  have c4 := fnOf_ck h.ok.ck hk
  have hal8 : ar.length ≤ 8 := by have := hf.2.2; simp at this; omega
  have hal : ar.length ≤ 1000000 := by omega
  have HARS : Hid (∀ r ∈ ar, s.rg r = true) := Lib.hid (fun r hr => by
    have := List.any_eq_false.1 hany r hr
    simpa using this)
  obtain ⟨rn, hrn⟩ : ∃ rn : Nat, (fnOf s.m k).r = rn := ⟨(fnOf s.m k).r.toNat, by omega⟩
  obtain ⟨an, han⟩ : ∃ an : Nat, (fnOf s.m k).a = an := ⟨(fnOf s.m k).a.toNat, by omega⟩
  have hrn64 : rn ≤ 64 := by omega
  have han96 : an ≤ 4096 := by omega
  have HFS : Hid (fsz (fnOf s.m k) = r16 (8 * rn + an)) := Lib.hid (by rw [fsz_r16 (by omega) (by omega), hrn, han]; rfl)
  have FAT : Hid (∀ w', RSpAt w' O R p s z → ∃ b o, z.fa = some ⟨b, o, none⟩ ∧ w'.cell? ⟨b, o + k * 4 + 1, none⟩ = some (.int .i64 rn) ∧ w'.cell? ⟨b, o + k * 4 + 2, none⟩ = some (.int .i64 an)) := Lib.hid (fun w' h' => by
    obtain ⟨b, o, e1, -, e2, e3⟩ := h'.fn hk
    exact ⟨b, o, e1, by rw [← hrn]; exact e2, by rw [← han]; exact e3⟩)
  have HDL := Lib.hid (ck_len h.ok.ck).1
  have HFR : Hid (r16 (16 + s.m.d.length) = flr s.m) := Lib.hid (flr_r16 s.m).symm
  have HAT := Lib.hid h.ok.al
  have HBL := Lib.hid h.ok.bl
  have HA16 := Lib.hid h.ok.a16
  have HLO := Lib.hid h.ok.lo
  have HF16 := Lib.hid (flr_16 s.m)
  have HLL := Lib.hid h.ok.ll
  have HFL := Lib.hid hfl
  have HLT := Lib.hid h.lt
  have HOP := Lib.hid h.op
  have HKV := Lib.hid (owns_shape h.links)
  simp only [Zp.full, Int.toNat_natCast, HFS.out] at hfl hA
  have HOK : Hid (({ s with e := (3, 0) } : Zp).Ok) := Lib.hid (h.ok.fix rfl rfl h.ok.bb rfl h.ok.ip rfl rfl rfl h.ok.f0 h.ok.f1 h.ok.pl (.inr rfl) (fun h0 => by simp at h0))
  have HPC := Lib.hid hA
  clear h he hf hv hrn han hk c4 hany
  clear hA hfl
  go_enter Tryz.func85, Tryz.ntmps85
  go_wp2_with fail
  refine (rreg_ok _ res H.out).mono ?_
  rintro e w2 ⟨rfl, r2⟩
  have R2 := Lib.hid r2
  have H2 := Lib.hid (H.out.fr r2)
  clear r2
  rw [hres]
  go_wp2_with fail
  refine (srefplace_ok _ back).mono ?_
  rintro e w3 ⟨rfl, rfl⟩
  rw [hb]
  go_wp2_with fail
  go_loopw [11, 12] (fun x y wr => ∃ (j : Nat) (xa : Option Addr) (xc : Nat), j ≤ ar.length ∧ y = .int .i64 j ∧ x = .slice xa j xc ∧ Hid (∀ r ∈ ar.take j, s.rg r = true) ∧ Hid (wr.ownsRow w.heap.size 34 1 (.slice xa j xc) j (u64s (s.argsS (ar.take j)))) ∧ Hid (Fr no w wr) ∧ Hid (RSpAt wr O R p s z)) (fun _ y _ => (ar.length - intOf y).toNat)
  case atStart => exact ⟨0, none, 0, by omega, by simp, by simp, Lib.hid (by simp), Lib.hid (World.ownsRow_nil _ _ _ _), R2, H2⟩
  case round =>
    obtain ⟨j, xa, xc, hj, rfl, rfl, hgd, hown, hfr, hsp⟩ := hrel
    by_cases hjl : j < ar.length
    · have hlt : (j : Int) < ar.length := by omega
      obtain ⟨vb, vo, rfl, hc⟩ := (HV.out.fr hfr.out (by simp)).at1 (k := j) (u := .int .i64 ar[j]) (by simp [ints, hjl])
      have HG := Lib.hid (rget_ok wr ar[j] hsp.out)
      have hrg := HARS.out ar[j] (List.getElem_mem hjl)
      have hgs : s.getS ar[j] = (rd8 s.b (s.at_ + 8 * (ar[j]).toNat), 0) := by simp [Zp.getS, HEE.out, hrg]
      rw [hgs] at HG
      have HNX : Hid (u64s (s.argsS (ar.take j)) ++ [.int .u64 (rd8 s.b (s.at_ + 8 * (ar[j]).toNat) : Nat)] = u64s (s.argsS (ar.take (j + 1)))) := Lib.hid (by rw [List.take_succ_eq_append_getElem hjl]; simp only [u64s, Zp.argsS, List.map_append, List.map_cons, List.map_nil])
      have HGD : Hid (∀ r ∈ ar.take (j + 1), s.rg r = true) := Lib.hid (fun r hr => by
        rw [List.take_succ_eq_append_getElem hjl, List.mem_append, List.mem_singleton] at hr
        rcases hr with hr | rfl
        · exact hgd.out r hr
        · exact hrg)
      clear hgs hrg hgd
      generalize rd8 s.b (s.at_ + 8 * (ar[j]).toNat) = x at *
      generalize ar[j] = rj at *
      go_wp2_with fail
      refine HG.out.mono ?_
      rintro e w5 ⟨rfl, r5⟩
      have hfr5 := hfr.out.trans r5
      have OD := Lib.hid ((owns_fr hown.out r5 (by simp)).alloc (.cells #[.int .u64 (x : Int)] 34))
      have ra := (Fr.refl no w5).alloc (.cells #[.int .u64 (x : Int)] 34)
      have RA := Lib.hid (hfr5.trans ra)
      have HSA := Lib.hid ((hsp.out.fr r5).fr ra)
      clear ra hfr5 r5
      go_wp2_with (at_builtin; (refine wpList_append_at rfl (.tmp 82) _ 58 rfl w.heap.size 34 (.int .u64 0) 1 8 Tryz.underlying58 Tryz.infoU64 rfl (by decide) _ j _ rfl OD.out 1 [.int .u64 x] (reads_one _ _ _) int_one (by unfold maxLen; omega) (by omega) RA.out.size ?_); intro ga gc w6 ho hg hbk)
      have HO6 : Hid (w6.ownsRow w.heap.size 34 1 (.slice ga (j + 1) gc) (j + 1) (u64s (s.argsS (ar.take (j + 1))))) := Lib.hid (by rw [← HNX.out]; exact ho)
      have hge : ∀ i, (Value.slice xa j xc).ownBlock = some i → w.heap.size ≤ i := fun i hi => (OD.out.lt i hi).1
      have hlt4 : ∀ i, O i ∨ R i → i < w.heap.size := HLT.out
      have rg := (Fr.refl (fun k => (Value.slice xa j xc).ownBlock = some k) _).grown hg (fun k hk => .inl hk)
      have R6 := Lib.hid (RA.out.trans' rg (fun k hk _ => hge k hk))
      have H6 := Lib.hid (HSA.out.frx rg (fun k hk _ => ⟨fun ho => by have := hge k hk; have := hlt4 k (.inl ho); omega, fun ho => by have := hge k hk; have := hlt4 k (.inr ho); omega⟩))
      clear ho hg hbk hge hlt4 rg
      go_roundw
      case rel => exact ⟨j + 1, ga, gc, by omega, by go_num, rfl, HGD, HO6, R6, H6⟩
      case measure => first | (simp [intOf]; done) | (simp [intOf]; omega)
    · obtain rfl : j = ar.length := by omega
      have HOW : Hid (wr.ownsRow w.heap.size 34 1 (.slice xa ar.length xc) ar.length (u64s (s.argsS ar))) := Lib.hid (by have := hown.out; rw [List.take_length] at this; exact this)
      have cd : wr.cell? ⟨p, 0, none⟩ = some (.slice z.da s.m.d.length z.dc) := cell_of_heap hsp.out.obj rfl
      clear hown hfa cp hgd
      go_wp2_with fail
      refine (reffloor_ok _ s.m.d.length HDL.out).mono ?_
      rintro e w' ⟨rfl, rfl⟩
      rw [HFR.out]
      go_upto_region 16 with (fail)
      obtain ⟨gb, go, hfa2, cr, ca⟩ := FAT.out _ hsp.out
      have hkl : (k : Int) < s.m.f.length := by omega
      have rd := (Fr.refl no wr).drew
      have H5 := Lib.hid (hsp.out.fr rd)
      have R5 := Lib.hid (hfr.out.trans rd)
      have HW5 := Lib.hid (owns_fr HOW.out rd (by simp))
      have S5 : Hid ((fun w' : World => w'.cell? ⟨p, 6, none⟩ = some (.int .u64 s.at_) ∧ w'.cell? ⟨p, 1, none⟩ = some (.slice (some ⟨gb, go, none⟩) s.m.f.length z.fc) ∧ w'.cell? ⟨gb, go + k * 4 + 1, none⟩ = some (.int .i64 rn) ∧ w'.cell? ⟨gb, go + k * 4 + 2, none⟩ = some (.int .i64 an)) wr.drew) := Lib.hid ⟨cell_of_heap H5.out.obj rfl, by rw [← hfa2]; exact cell_of_heap H5.out.obj rfl, rd.cell cr (by simp), rd.cell ca (by simp)⟩
      clear rd hsp hfr HOW cd cr ca hfa2
      refine Lex.region [23] [28, 1] (by kernel_rfl) (by kernel_rfl) ?_
      refine Lex.opens (fun w' => w'.cell? ⟨p, 6, none⟩ = some (.int .u64 s.at_) ∧ w'.cell? ⟨p, 1, none⟩ = some (.slice (some ⟨gb, go, none⟩) s.m.f.length z.fc) ∧ w'.cell? ⟨gb, go + k * 4 + 1, none⟩ = some (.int .i64 rn) ∧ w'.cell? ⟨gb, go + k * 4 + 2, none⟩ = some (.int .i64 an)) (S5.out) ?_
      repeat (first
        | (refine Lex.skips (by rfl) ?_; (try simp only [Act.put, List.setIfInBounds_toArray, List.set_cons_zero, List.set_cons_succ]))
        | (refine Lex.quiet (v := ?_) (by rfl) (by rfl) ?_ ?_; rotate_left; (focus (intro w' hS'; go_simp; try rfl)); (try simp only [Act.put, List.setIfInBounds_toArray, List.set_cons_zero, List.set_cons_succ])))
      refine Lex.loud (by rfl) (by rfl) ?_
      intro K' hK'
      go_simp
      refine (refpush_full _ s.at_ (flr s.m) rn an hrn64 han96 HA16.out (by have := HAT.out; have := HBL.out; omega) HF16.out (by have := HAT.out; have := HBL.out; have := HLO.out; omega) HPC.out).mono ?_
      rintro e w' ⟨rfl, rfl⟩
      refine hK' _ _ (S5.out) ?_
      clear hK'
      try simp only [Act.put, List.setIfInBounds_toArray, List.set_cons_zero, List.set_cons_succ]
      repeat (first
        | (refine Lex.skips (by rfl) ?_; (try simp only [Act.put, List.setIfInBounds_toArray, List.set_cons_zero, List.set_cons_succ]))
        | (refine Lex.quiet (v := ?_) (by rfl) (by rfl) ?_ ?_; rotate_left; (focus (intro w' hS'; go_simp; try rfl)); (try simp only [Act.put, List.setIfInBounds_toArray, List.set_cons_zero, List.set_cons_succ])))
      refine Lex.done ?_
      refine Lex.opens (fun w' => True) (trivial) ?_
      repeat (first
        | (refine Lex.skips (by rfl) ?_; (try simp only [Act.put, List.setIfInBounds_toArray, List.set_cons_zero, List.set_cons_succ]))
        | (refine Lex.quiet (v := ?_) (by rfl) (by rfl) ?_ ?_; rotate_left; (focus (intro w' hS'; go_simp; try rfl)); (try simp only [Act.put, List.setIfInBounds_toArray, List.set_cons_zero, List.set_cons_succ])))
      refine Lex.done ?_
      refine Lex.ends ?_
      generalize wr.drew = w6 at *
      have HT := Lib.hid (there_of (o := 9) (n := 2) H5.out.obj (show 9 + 2 ≤ 11 from by decide))
      have HS := Lib.hid (H5.out.endS (3, 0) HOK.out)
      go_wp2_with ((refine wpList_store_mid (op := ⟨none, .store 43 (.tmp 136) (.tmp 134), _, _, _, _⟩) rfl 43 (.tmp 136) (.tmp 134) rfl p 9 #[.int .i64 3, .int .i64 0] rfl rfl HT.out (by rw [Tryz.infoEnd]; rfl) (by simp [Value.oneCell']) ?_; rw [act_put_none]))
      go_ret
      exact ⟨rfl, (HS.out.1.to HS.out.2).pre R5.out⟩
set_option maxHeartbeats 4000000 in
theorem rcall_fb (w : World) (h : RSpAt w O R p s z) (he : s.e.1 = 0) (hf : s.badF f ar.length = false) (hr : s.badR ar res back = false) (hfl : s.full f = true) (hv : Reads w (.slice aa ar.length ac) 1 ar.length (ints ar)) (hA : ¬ s.at_ < flr s.m + fsz (fnOf s.m f.toNat)) : Calls Tryz.prog 85 #[.pointer (some ⟨p, 0, none⟩), .int .i64 f, .slice aa ar.length ac, .int .i64 res, .int .i64 back] w fun e w' => e = .returned (.int .i64 0) ∧ RSpTo w w' O R p { s with e := (3, 0) } := by
  have c9 : w.cell? ⟨p, 9, none⟩ = some (.int .i64 s.e.1) := cell_of_heap h.obj rfl
  have H := Lib.hid h
  have HV := Lib.hid hv
  have HEE := Lib.hid he
  rw [he] at c9
  simp only [Zp.badF, decide_eq_false_iff_not, not_or] at hf
  have h1 : ¬ f < 0 := hf.1
  have h2 : ¬ f ≥ s.m.f.length := by omega
  obtain ⟨k, rfl⟩ : ∃ k : Nat, f = k := ⟨f.toNat, by omega⟩
  have hk : k < s.m.f.length := by omega
  have hne : ((ar.length : Int) != (fnOf s.m k).p) = false := by
    rw [bne_eq_false_iff_eq]
    have := hf.2.2
    simpa using this
  have c1 : w.cell? ⟨p, 1, none⟩ = some (.slice z.fa s.m.f.length z.fc) := cell_of_heap h.obj rfl
  obtain ⟨b, ob, hfa, cp, -⟩ := h.fn hk
  rw [hfa] at c1
  simp only [Zp.badR, Bool.or_eq_false_iff, Bool.not_eq_false'] at hr
  obtain ⟨⟨hres, hb⟩, hany⟩ := hr
  have c4 := fnOf_ck h.ok.ck hk
  have hal8 : ar.length ≤ 8 := by have := hf.2.2; simp at this; omega
  have hal : ar.length ≤ 1000000 := by omega
  have HARS : Hid (∀ r ∈ ar, s.rg r = true) := Lib.hid (fun r hr => by
    have := List.any_eq_false.1 hany r hr
    simpa using this)
  obtain ⟨rn, hrn⟩ : ∃ rn : Nat, (fnOf s.m k).r = rn := ⟨(fnOf s.m k).r.toNat, by omega⟩
  obtain ⟨an, han⟩ : ∃ an : Nat, (fnOf s.m k).a = an := ⟨(fnOf s.m k).a.toNat, by omega⟩
  have hrn64 : rn ≤ 64 := by omega
  have han96 : an ≤ 4096 := by omega
  have HFS : Hid (fsz (fnOf s.m k) = r16 (8 * rn + an)) := Lib.hid (by rw [fsz_r16 (by omega) (by omega), hrn, han]; rfl)
  have FAT : Hid (∀ w', RSpAt w' O R p s z → ∃ b o, z.fa = some ⟨b, o, none⟩ ∧ w'.cell? ⟨b, o + k * 4 + 1, none⟩ = some (.int .i64 rn) ∧ w'.cell? ⟨b, o + k * 4 + 2, none⟩ = some (.int .i64 an)) := Lib.hid (fun w' h' => by
    obtain ⟨b, o, e1, -, e2, e3⟩ := h'.fn hk
    exact ⟨b, o, e1, by rw [← hrn]; exact e2, by rw [← han]; exact e3⟩)
  have HDL := Lib.hid (ck_len h.ok.ck).1
  have HFR : Hid (r16 (16 + s.m.d.length) = flr s.m) := Lib.hid (flr_r16 s.m).symm
  have HAT := Lib.hid h.ok.al
  have HBL := Lib.hid h.ok.bl
  have HA16 := Lib.hid h.ok.a16
  have HLO := Lib.hid h.ok.lo
  have HF16 := Lib.hid (flr_16 s.m)
  have HLL := Lib.hid h.ok.ll
  have HFL := Lib.hid hfl
  have HLT := Lib.hid h.lt
  have HOP := Lib.hid h.op
  have HKV := Lib.hid (owns_shape h.links)
  simp only [Zp.full, Int.toNat_natCast, HFS.out] at hfl hA
  have HOK : Hid (({ s with e := (3, 0) } : Zp).Ok) := Lib.hid (h.ok.fix rfl rfl h.ok.bb rfl h.ok.ip rfl rfl rfl h.ok.f0 h.ok.f1 h.ok.pl (.inr rfl) (fun h0 => by simp at h0))
  have HPC := Lib.hid hA
  have hge : ((s.ls.length : Nat) : Int) ≥ 256 := by
    have := (of_decide_eq_true hfl).resolve_left hA
    omega
  obtain ⟨ka, kc, hkv⟩ : ∃ ka kc, z.kv = .slice ka s.ls.length kc := HKV.out
  clear h he hf hv hrn han hk c4 hany
  clear hA hfl
  go_enter Tryz.func85, Tryz.ntmps85
  go_wp2_with fail
  refine (rreg_ok _ res H.out).mono ?_
  rintro e w2 ⟨rfl, r2⟩
  have R2 := Lib.hid r2
  have H2 := Lib.hid (H.out.fr r2)
  clear r2
  rw [hres]
  go_wp2_with fail
  refine (srefplace_ok _ back).mono ?_
  rintro e w3 ⟨rfl, rfl⟩
  rw [hb]
  go_wp2_with fail
  go_loopw [11, 12] (fun x y wr => ∃ (j : Nat) (xa : Option Addr) (xc : Nat), j ≤ ar.length ∧ y = .int .i64 j ∧ x = .slice xa j xc ∧ Hid (∀ r ∈ ar.take j, s.rg r = true) ∧ Hid (wr.ownsRow w.heap.size 34 1 (.slice xa j xc) j (u64s (s.argsS (ar.take j)))) ∧ Hid (Fr no w wr) ∧ Hid (RSpAt wr O R p s z)) (fun _ y _ => (ar.length - intOf y).toNat)
  case atStart => exact ⟨0, none, 0, by omega, by simp, by simp, Lib.hid (by simp), Lib.hid (World.ownsRow_nil _ _ _ _), R2, H2⟩
  case round =>
    obtain ⟨j, xa, xc, hj, rfl, rfl, hgd, hown, hfr, hsp⟩ := hrel
    by_cases hjl : j < ar.length
    · have hlt : (j : Int) < ar.length := by omega
      obtain ⟨vb, vo, rfl, hc⟩ := (HV.out.fr hfr.out (by simp)).at1 (k := j) (u := .int .i64 ar[j]) (by simp [ints, hjl])
      have HG := Lib.hid (rget_ok wr ar[j] hsp.out)
      have hrg := HARS.out ar[j] (List.getElem_mem hjl)
      have hgs : s.getS ar[j] = (rd8 s.b (s.at_ + 8 * (ar[j]).toNat), 0) := by simp [Zp.getS, HEE.out, hrg]
      rw [hgs] at HG
      have HNX : Hid (u64s (s.argsS (ar.take j)) ++ [.int .u64 (rd8 s.b (s.at_ + 8 * (ar[j]).toNat) : Nat)] = u64s (s.argsS (ar.take (j + 1)))) := Lib.hid (by rw [List.take_succ_eq_append_getElem hjl]; simp only [u64s, Zp.argsS, List.map_append, List.map_cons, List.map_nil])
      have HGD : Hid (∀ r ∈ ar.take (j + 1), s.rg r = true) := Lib.hid (fun r hr => by
        rw [List.take_succ_eq_append_getElem hjl, List.mem_append, List.mem_singleton] at hr
        rcases hr with hr | rfl
        · exact hgd.out r hr
        · exact hrg)
      clear hgs hrg hgd
      generalize rd8 s.b (s.at_ + 8 * (ar[j]).toNat) = x at *
      generalize ar[j] = rj at *
      go_wp2_with fail
      refine HG.out.mono ?_
      rintro e w5 ⟨rfl, r5⟩
      have hfr5 := hfr.out.trans r5
      have OD := Lib.hid ((owns_fr hown.out r5 (by simp)).alloc (.cells #[.int .u64 (x : Int)] 34))
      have ra := (Fr.refl no w5).alloc (.cells #[.int .u64 (x : Int)] 34)
      have RA := Lib.hid (hfr5.trans ra)
      have HSA := Lib.hid ((hsp.out.fr r5).fr ra)
      clear ra hfr5 r5
      go_wp2_with (at_builtin; (refine wpList_append_at rfl (.tmp 82) _ 58 rfl w.heap.size 34 (.int .u64 0) 1 8 Tryz.underlying58 Tryz.infoU64 rfl (by decide) _ j _ rfl OD.out 1 [.int .u64 x] (reads_one _ _ _) int_one (by unfold maxLen; omega) (by omega) RA.out.size ?_); intro ga gc w6 ho hg hbk)
      have HO6 : Hid (w6.ownsRow w.heap.size 34 1 (.slice ga (j + 1) gc) (j + 1) (u64s (s.argsS (ar.take (j + 1))))) := Lib.hid (by rw [← HNX.out]; exact ho)
      have hge : ∀ i, (Value.slice xa j xc).ownBlock = some i → w.heap.size ≤ i := fun i hi => (OD.out.lt i hi).1
      have hlt4 : ∀ i, O i ∨ R i → i < w.heap.size := HLT.out
      have rg := (Fr.refl (fun k => (Value.slice xa j xc).ownBlock = some k) _).grown hg (fun k hk => .inl hk)
      have R6 := Lib.hid (RA.out.trans' rg (fun k hk _ => hge k hk))
      have H6 := Lib.hid (HSA.out.frx rg (fun k hk _ => ⟨fun ho => by have := hge k hk; have := hlt4 k (.inl ho); omega, fun ho => by have := hge k hk; have := hlt4 k (.inr ho); omega⟩))
      clear ho hg hbk hge hlt4 rg
      go_roundw
      case rel => exact ⟨j + 1, ga, gc, by omega, by go_num, rfl, HGD, HO6, R6, H6⟩
      case measure => first | (simp [intOf]; done) | (simp [intOf]; omega)
    · obtain rfl : j = ar.length := by omega
      have HOW : Hid (wr.ownsRow w.heap.size 34 1 (.slice xa ar.length xc) ar.length (u64s (s.argsS ar))) := Lib.hid (by have := hown.out; rw [List.take_length] at this; exact this)
      have cd : wr.cell? ⟨p, 0, none⟩ = some (.slice z.da s.m.d.length z.dc) := cell_of_heap hsp.out.obj rfl
      clear hown hfa cp hgd
      go_wp2_with fail
      refine (reffloor_ok _ s.m.d.length HDL.out).mono ?_
      rintro e w' ⟨rfl, rfl⟩
      rw [HFR.out]
      go_upto_region 16 with (fail)
      obtain ⟨gb, go, hfa2, cr, ca⟩ := FAT.out _ hsp.out
      have hkl : (k : Int) < s.m.f.length := by omega
      have rd := (Fr.refl no wr).drew
      have H5 := Lib.hid (hsp.out.fr rd)
      have R5 := Lib.hid (hfr.out.trans rd)
      have HW5 := Lib.hid (owns_fr HOW.out rd (by simp))
      have S5 : Hid ((fun w' : World => w'.cell? ⟨p, 6, none⟩ = some (.int .u64 s.at_) ∧ w'.cell? ⟨p, 1, none⟩ = some (.slice (some ⟨gb, go, none⟩) s.m.f.length z.fc) ∧ w'.cell? ⟨gb, go + k * 4 + 1, none⟩ = some (.int .i64 rn) ∧ w'.cell? ⟨gb, go + k * 4 + 2, none⟩ = some (.int .i64 an)) wr.drew) := Lib.hid ⟨cell_of_heap H5.out.obj rfl, by rw [← hfa2]; exact cell_of_heap H5.out.obj rfl, rd.cell cr (by simp), rd.cell ca (by simp)⟩
      clear rd hsp hfr HOW cd cr ca hfa2
      refine Lex.region [23] [28, 1] (by kernel_rfl) (by kernel_rfl) ?_
      refine Lex.opens (fun w' => w'.cell? ⟨p, 6, none⟩ = some (.int .u64 s.at_) ∧ w'.cell? ⟨p, 1, none⟩ = some (.slice (some ⟨gb, go, none⟩) s.m.f.length z.fc) ∧ w'.cell? ⟨gb, go + k * 4 + 1, none⟩ = some (.int .i64 rn) ∧ w'.cell? ⟨gb, go + k * 4 + 2, none⟩ = some (.int .i64 an)) (S5.out) ?_
      repeat (first
        | (refine Lex.skips (by rfl) ?_; (try simp only [Act.put, List.setIfInBounds_toArray, List.set_cons_zero, List.set_cons_succ]))
        | (refine Lex.quiet (v := ?_) (by rfl) (by rfl) ?_ ?_; rotate_left; (focus (intro w' hS'; go_simp; try rfl)); (try simp only [Act.put, List.setIfInBounds_toArray, List.set_cons_zero, List.set_cons_succ])))
      refine Lex.loud (by rfl) (by rfl) ?_
      intro K' hK'
      go_simp
      refine (refpush_room _ s.at_ (flr s.m) rn an hrn64 han96 HA16.out (by have := HAT.out; have := HBL.out; omega) HF16.out (by have := HAT.out; have := HBL.out; have := HLO.out; omega) HPC.out).mono ?_
      rintro e w' ⟨rfl, rfl⟩
      refine hK' _ _ (S5.out) ?_
      clear hK'
      try simp only [Act.put, List.setIfInBounds_toArray, List.set_cons_zero, List.set_cons_succ]
      repeat (first
        | (refine Lex.skips (by rfl) ?_; (try simp only [Act.put, List.setIfInBounds_toArray, List.set_cons_zero, List.set_cons_succ]))
        | (refine Lex.quiet (v := ?_) (by rfl) (by rfl) ?_ ?_; rotate_left; (focus (intro w' hS'; go_simp; try rfl)); (try simp only [Act.put, List.setIfInBounds_toArray, List.set_cons_zero, List.set_cons_succ])))
      refine Lex.done ?_
      refine Lex.opens (fun w' => True) (trivial) ?_
      repeat (first
        | (refine Lex.skips (by rfl) ?_; (try simp only [Act.put, List.setIfInBounds_toArray, List.set_cons_zero, List.set_cons_succ]))
        | (refine Lex.quiet (v := ?_) (by rfl) (by rfl) ?_ ?_; rotate_left; (focus (intro w' hS'; go_simp; try rfl)); (try simp only [Act.put, List.setIfInBounds_toArray, List.set_cons_zero, List.set_cons_succ])))
      refine Lex.done ?_
      refine Lex.ends ?_
      generalize wr.drew = w6 at *
      have HT := Lib.hid (there_of (o := 9) (n := 2) H5.out.obj (show 9 + 2 ≤ 11 from by decide))
      have HS := Lib.hid (H5.out.endS (3, 0) HOK.out)
      have c8 : w6.cell? ⟨p, 8, none⟩ = some z.kv := cell_of_heap H5.out.obj rfl
      rw [hkv] at c8
      go_wp2_with ((refine wpList_store_mid (op := ⟨none, .store 43 (.tmp 136) (.tmp 134), _, _, _, _⟩) rfl 43 (.tmp 136) (.tmp 134) rfl p 9 #[.int .i64 3, .int .i64 0] rfl rfl HT.out (by rw [Tryz.infoEnd]; rfl) (by simp [Value.oneCell']) ?_; rw [act_put_none]))
      go_ret
      exact ⟨rfl, (HS.out.1.to HS.out.2).pre R5.out⟩
set_option maxHeartbeats 4000000 in
theorem rcall_0 (w : World) (h : RSpAt w O R p s z) (he : s.e.1 = 0) (hf : s.badF f ar.length = false) (hr : s.badR ar res back = false) (hfl : s.full f = false) (hv : Reads w (.slice aa ar.length ac) 1 ar.length (ints ar)) : Calls Tryz.prog 85 #[.pointer (some ⟨p, 0, none⟩), .int .i64 f, .slice aa ar.length ac, .int .i64 res, .int .i64 back] w fun e w' => e = .returned (.int .i64 0) ∧ RSpTo w w' O R p ((s.down f res back).layS 0 (s.argsS ar)) := by
  have c9 : w.cell? ⟨p, 9, none⟩ = some (.int .i64 s.e.1) := cell_of_heap h.obj rfl
  have H := Lib.hid h
  have HV := Lib.hid hv
  have HEE := Lib.hid he
  rw [he] at c9
  simp only [Zp.badF, decide_eq_false_iff_not, not_or] at hf
  have h1 : ¬ f < 0 := hf.1
  have h2 : ¬ f ≥ s.m.f.length := by omega
  obtain ⟨k, rfl⟩ : ∃ k : Nat, f = k := ⟨f.toNat, by omega⟩
  have hk : k < s.m.f.length := by omega
  have hne : ((ar.length : Int) != (fnOf s.m k).p) = false := by
    rw [bne_eq_false_iff_eq]
    have := hf.2.2
    simpa using this
  have c1 : w.cell? ⟨p, 1, none⟩ = some (.slice z.fa s.m.f.length z.fc) := cell_of_heap h.obj rfl
  obtain ⟨b, ob, hfa, cp, -⟩ := h.fn hk
  rw [hfa] at c1
  simp only [Zp.badR, Bool.or_eq_false_iff, Bool.not_eq_false'] at hr
  obtain ⟨⟨hres, hb⟩, hany⟩ := hr
  have c4 := fnOf_ck h.ok.ck hk
  have hal8 : ar.length ≤ 8 := by have := hf.2.2; simp at this; omega
  have hal : ar.length ≤ 1000000 := by omega
  have HARS : Hid (∀ r ∈ ar, s.rg r = true) := Lib.hid (fun r hr => by
    have := List.any_eq_false.1 hany r hr
    simpa using this)
  obtain ⟨rn, hrn⟩ : ∃ rn : Nat, (fnOf s.m k).r = rn := ⟨(fnOf s.m k).r.toNat, by omega⟩
  obtain ⟨an, han⟩ : ∃ an : Nat, (fnOf s.m k).a = an := ⟨(fnOf s.m k).a.toNat, by omega⟩
  have hrn64 : rn ≤ 64 := by omega
  have han96 : an ≤ 4096 := by omega
  have HFS : Hid (fsz (fnOf s.m k) = r16 (8 * rn + an)) := Lib.hid (by rw [fsz_r16 (by omega) (by omega), hrn, han]; rfl)
  have FAT : Hid (∀ w', RSpAt w' O R p s z → ∃ b o, z.fa = some ⟨b, o, none⟩ ∧ w'.cell? ⟨b, o + k * 4 + 1, none⟩ = some (.int .i64 rn) ∧ w'.cell? ⟨b, o + k * 4 + 2, none⟩ = some (.int .i64 an)) := Lib.hid (fun w' h' => by
    obtain ⟨b, o, e1, -, e2, e3⟩ := h'.fn hk
    exact ⟨b, o, e1, by rw [← hrn]; exact e2, by rw [← han]; exact e3⟩)
  have HDL := Lib.hid (ck_len h.ok.ck).1
  have HFR : Hid (r16 (16 + s.m.d.length) = flr s.m) := Lib.hid (flr_r16 s.m).symm
  have HAT := Lib.hid h.ok.al
  have HBL := Lib.hid h.ok.bl
  have HA16 := Lib.hid h.ok.a16
  have HLO := Lib.hid h.ok.lo
  have HF16 := Lib.hid (flr_16 s.m)
  have HLL := Lib.hid h.ok.ll
  have HFL := Lib.hid hfl
  have HLT := Lib.hid h.lt
  have HOP := Lib.hid h.op
  have HKV := Lib.hid (owns_shape h.links)
  simp only [Zp.full, Int.toNat_natCast, HFS.out] at hfl
  have hlf : s.ls.length < 256 := by
    have := of_decide_eq_false hfl
    omega
  have hA : ¬ s.at_ < flr s.m + r16 (8 * rn + an) := by
    have := of_decide_eq_false hfl
    omega
  have HARL : Hid ((s.argsS ar).length = ar.length) := Lib.hid (by simp [Zp.argsS])
  have hdk := h.ok.down he (f := (k : Int)) (res := res) (back := back) (n := ar.length) (by simp only [Zp.badF, decide_eq_false_iff_not, not_or]; exact hf) hres hb HFL.out
  have HX : Hid (s.down k res back = { ({ s with ls := s.ls ++ [⟨s.f, s.at_, back, res⟩] } : Zp) with f := k, at_ := s.at_ - r16 (8 * rn + an), pc := 0 }) := Lib.hid (by unfold Zp.down; rw [Int.toNat_natCast, HFS.out])
  have HOKD : Hid (({ ({ s with ls := s.ls ++ [⟨s.f, s.at_, back, res⟩] } : Zp) with f := k, at_ := s.at_ - r16 (8 * rn + an), pc := 0 } : Zp).Ok) := Lib.hid (by rw [← HX.out]; exact hdk)
  have HOKL : Hid (({ s with ls := s.ls ++ [⟨s.f, s.at_, back, res⟩] } : Zp).Ok) := Lib.hid (by
    refine ⟨h.ok.ck, h.ok.sm, h.ok.bl, h.ok.b16, h.ok.bb, h.ok.lo, h.ok.al, h.ok.a16, h.ok.fi, h.ok.fit, fun l hl => ?_, ?_, h.ok.ip, h.ok.il, h.ok.ib, h.ok.f0, h.ok.f1, h.ok.pl, h.ok.em⟩
    · rcases List.mem_append.1 hl with hl | hl
      · have k := h.ok.ls l hl
        exact ⟨k.fi, k.lo, k.fit, k.al, k.a16, k.rg, k.pl⟩
      · simp only [List.mem_singleton] at hl
        subst hl
        exact ⟨h.ok.fi, h.ok.lo, h.ok.fit he, h.ok.al, h.ok.a16, hres, hb⟩
    · show (s.ls ++ [_]).length ≤ 256
      simp; omega)
  have HSET : Hid (∀ j (hj : j < (s.argsS ar).length), (((s.down k res back).layS 0 ((s.argsS ar).take j)).setS j (s.argsS ar)[j] = (((s.down k res back).layS 0 ((s.argsS ar).take j)).putR j (s.argsS ar)[j], 0)) ∧ (s.argsS ar)[j] < 18446744073709551616) := Lib.hid (fun j hj => by
    refine ⟨?_, ?_⟩
    · have sm := layS_same ((s.argsS ar).take j) (s.down k res back) 0
      have he' : ((s.down k res back).layS 0 ((s.argsS ar).take j)).e.1 = 0 := by rw [sm.2.2.2.2.2.2.2.2.2]; exact he
      refine setS_0 he' ?_ _
      simp only [Zp.rg, isRg]
      rw [sm.1, sm.2.2.2.2.2.2.1, HX.out]
      rw [HARL.out] at hj
      have h7 := hf.2.2
      simp at h7
      exact decide_eq_true ⟨by omega, by show (j : Int) < (fnOf s.m k).r; omega⟩
    · simp only [Zp.argsS, List.getElem_map]
      exact rd8_lt h.ok.bb _)
  have HPC := Lib.hid hA
  obtain ⟨ka, kc, hkv⟩ : ∃ ka kc, z.kv = .slice ka s.ls.length kc := HKV.out
  have hge : ¬ ((s.ls.length : Nat) : Int) ≥ 256 := by omega
  clear h he hf hv hrn han hk c4 hany hA hfl hdk hlf
  go_enter Tryz.func85, Tryz.ntmps85
  go_wp2_with fail
  refine (rreg_ok _ res H.out).mono ?_
  rintro e w2 ⟨rfl, r2⟩
  have R2 := Lib.hid r2
  have H2 := Lib.hid (H.out.fr r2)
  clear r2
  rw [hres]
  go_wp2_with fail
  refine (srefplace_ok _ back).mono ?_
  rintro e w3 ⟨rfl, rfl⟩
  rw [hb]
  go_wp2_with fail
  go_loopw [11, 12] (fun x y wr => ∃ (j : Nat) (xa : Option Addr) (xc : Nat), j ≤ ar.length ∧ y = .int .i64 j ∧ x = .slice xa j xc ∧ Hid (∀ r ∈ ar.take j, s.rg r = true) ∧ Hid (wr.ownsRow w.heap.size 34 1 (.slice xa j xc) j (u64s (s.argsS (ar.take j)))) ∧ Hid (Fr no w wr) ∧ Hid (RSpAt wr O R p s z)) (fun _ y _ => (ar.length - intOf y).toNat)
  case atStart => exact ⟨0, none, 0, by omega, by simp, by simp, Lib.hid (by simp), Lib.hid (World.ownsRow_nil _ _ _ _), R2, H2⟩
  case round =>
    obtain ⟨j, xa, xc, hj, rfl, rfl, hgd, hown, hfr, hsp⟩ := hrel
    by_cases hjl : j < ar.length
    · have hlt : (j : Int) < ar.length := by omega
      obtain ⟨vb, vo, rfl, hc⟩ := (HV.out.fr hfr.out (by simp)).at1 (k := j) (u := .int .i64 ar[j]) (by simp [ints, hjl])
      have HG := Lib.hid (rget_ok wr ar[j] hsp.out)
      have hrg := HARS.out ar[j] (List.getElem_mem hjl)
      have hgs : s.getS ar[j] = (rd8 s.b (s.at_ + 8 * (ar[j]).toNat), 0) := by simp [Zp.getS, HEE.out, hrg]
      rw [hgs] at HG
      have HNX : Hid (u64s (s.argsS (ar.take j)) ++ [.int .u64 (rd8 s.b (s.at_ + 8 * (ar[j]).toNat) : Nat)] = u64s (s.argsS (ar.take (j + 1)))) := Lib.hid (by rw [List.take_succ_eq_append_getElem hjl]; simp only [u64s, Zp.argsS, List.map_append, List.map_cons, List.map_nil])
      have HGD : Hid (∀ r ∈ ar.take (j + 1), s.rg r = true) := Lib.hid (fun r hr => by
        rw [List.take_succ_eq_append_getElem hjl, List.mem_append, List.mem_singleton] at hr
        rcases hr with hr | rfl
        · exact hgd.out r hr
        · exact hrg)
      clear hgs hrg hgd
      generalize rd8 s.b (s.at_ + 8 * (ar[j]).toNat) = x at *
      generalize ar[j] = rj at *
      go_wp2_with fail
      refine HG.out.mono ?_
      rintro e w5 ⟨rfl, r5⟩
      have hfr5 := hfr.out.trans r5
      have OD := Lib.hid ((owns_fr hown.out r5 (by simp)).alloc (.cells #[.int .u64 (x : Int)] 34))
      have ra := (Fr.refl no w5).alloc (.cells #[.int .u64 (x : Int)] 34)
      have RA := Lib.hid (hfr5.trans ra)
      have HSA := Lib.hid ((hsp.out.fr r5).fr ra)
      clear ra hfr5 r5
      go_wp2_with (at_builtin; (refine wpList_append_at rfl (.tmp 82) _ 58 rfl w.heap.size 34 (.int .u64 0) 1 8 Tryz.underlying58 Tryz.infoU64 rfl (by decide) _ j _ rfl OD.out 1 [.int .u64 x] (reads_one _ _ _) int_one (by unfold maxLen; omega) (by omega) RA.out.size ?_); intro ga gc w6 ho hg hbk)
      have HO6 : Hid (w6.ownsRow w.heap.size 34 1 (.slice ga (j + 1) gc) (j + 1) (u64s (s.argsS (ar.take (j + 1))))) := Lib.hid (by rw [← HNX.out]; exact ho)
      have hge : ∀ i, (Value.slice xa j xc).ownBlock = some i → w.heap.size ≤ i := fun i hi => (OD.out.lt i hi).1
      have hlt4 : ∀ i, O i ∨ R i → i < w.heap.size := HLT.out
      have rg := (Fr.refl (fun k => (Value.slice xa j xc).ownBlock = some k) _).grown hg (fun k hk => .inl hk)
      have R6 := Lib.hid (RA.out.trans' rg (fun k hk _ => hge k hk))
      have H6 := Lib.hid (HSA.out.frx rg (fun k hk _ => ⟨fun ho => by have := hge k hk; have := hlt4 k (.inl ho); omega, fun ho => by have := hge k hk; have := hlt4 k (.inr ho); omega⟩))
      clear ho hg hbk hge hlt4 rg
      go_roundw
      case rel => exact ⟨j + 1, ga, gc, by omega, by go_num, rfl, HGD, HO6, R6, H6⟩
      case measure => first | (simp [intOf]; done) | (simp [intOf]; omega)
    · obtain rfl : j = ar.length := by omega
      have HOW : Hid (wr.ownsRow w.heap.size 34 1 (.slice xa ar.length xc) ar.length (u64s (s.argsS ar))) := Lib.hid (by have := hown.out; rw [List.take_length] at this; exact this)
      have cd : wr.cell? ⟨p, 0, none⟩ = some (.slice z.da s.m.d.length z.dc) := cell_of_heap hsp.out.obj rfl
      clear hown hfa cp hgd
      go_wp2_with fail
      refine (reffloor_ok _ s.m.d.length HDL.out).mono ?_
      rintro e w' ⟨rfl, rfl⟩
      rw [HFR.out]
      go_upto_region 16 with (fail)
      obtain ⟨gb, go, hfa2, cr, ca⟩ := FAT.out _ hsp.out
      have hkl : (k : Int) < s.m.f.length := by omega
      have rd := (Fr.refl no wr).drew
      have H5 := Lib.hid (hsp.out.fr rd)
      have R5 := Lib.hid (hfr.out.trans rd)
      have HW5 := Lib.hid (owns_fr HOW.out rd (by simp))
      have S5 : Hid ((fun w' : World => w'.cell? ⟨p, 6, none⟩ = some (.int .u64 s.at_) ∧ w'.cell? ⟨p, 1, none⟩ = some (.slice (some ⟨gb, go, none⟩) s.m.f.length z.fc) ∧ w'.cell? ⟨gb, go + k * 4 + 1, none⟩ = some (.int .i64 rn) ∧ w'.cell? ⟨gb, go + k * 4 + 2, none⟩ = some (.int .i64 an)) wr.drew) := Lib.hid ⟨cell_of_heap H5.out.obj rfl, by rw [← hfa2]; exact cell_of_heap H5.out.obj rfl, rd.cell cr (by simp), rd.cell ca (by simp)⟩
      clear rd hsp hfr HOW cd cr ca hfa2
      refine Lex.region [23] [28, 1] (by kernel_rfl) (by kernel_rfl) ?_
      refine Lex.opens (fun w' => w'.cell? ⟨p, 6, none⟩ = some (.int .u64 s.at_) ∧ w'.cell? ⟨p, 1, none⟩ = some (.slice (some ⟨gb, go, none⟩) s.m.f.length z.fc) ∧ w'.cell? ⟨gb, go + k * 4 + 1, none⟩ = some (.int .i64 rn) ∧ w'.cell? ⟨gb, go + k * 4 + 2, none⟩ = some (.int .i64 an)) (S5.out) ?_
      repeat (first
        | (refine Lex.skips (by rfl) ?_; (try simp only [Act.put, List.setIfInBounds_toArray, List.set_cons_zero, List.set_cons_succ]))
        | (refine Lex.quiet (v := ?_) (by rfl) (by rfl) ?_ ?_; rotate_left; (focus (intro w' hS'; go_simp; try rfl)); (try simp only [Act.put, List.setIfInBounds_toArray, List.set_cons_zero, List.set_cons_succ])))
      refine Lex.loud (by rfl) (by rfl) ?_
      intro K' hK'
      go_simp
      refine (refpush_room _ s.at_ (flr s.m) rn an hrn64 han96 HA16.out (by have := HAT.out; have := HBL.out; omega) HF16.out (by have := HAT.out; have := HBL.out; have := HLO.out; omega) HPC.out).mono ?_
      rintro e w' ⟨rfl, rfl⟩
      refine hK' _ _ (S5.out) ?_
      clear hK'
      try simp only [Act.put, List.setIfInBounds_toArray, List.set_cons_zero, List.set_cons_succ]
      repeat (first
        | (refine Lex.skips (by rfl) ?_; (try simp only [Act.put, List.setIfInBounds_toArray, List.set_cons_zero, List.set_cons_succ]))
        | (refine Lex.quiet (v := ?_) (by rfl) (by rfl) ?_ ?_; rotate_left; (focus (intro w' hS'; go_simp; try rfl)); (try simp only [Act.put, List.setIfInBounds_toArray, List.set_cons_zero, List.set_cons_succ])))
      refine Lex.done ?_
      refine Lex.opens (fun w' => True) (trivial) ?_
      repeat (first
        | (refine Lex.skips (by rfl) ?_; (try simp only [Act.put, List.setIfInBounds_toArray, List.set_cons_zero, List.set_cons_succ]))
        | (refine Lex.quiet (v := ?_) (by rfl) (by rfl) ?_ ?_; rotate_left; (focus (intro w' hS'; go_simp; try rfl)); (try simp only [Act.put, List.setIfInBounds_toArray, List.set_cons_zero, List.set_cons_succ])))
      refine Lex.done ?_
      refine Lex.ends ?_
      generalize wr.drew = w6 at *
      have c8 : w6.cell? ⟨p, 8, none⟩ = some z.kv := cell_of_heap H5.out.obj rfl
      rw [hkv] at c8
      go_upto_region 20 with (fail)
      have rd6 := (Fr.refl no w6).drew
      have H6 := Lib.hid (H5.out.fr rd6)
      have R6 := Lib.hid (R5.out.trans rd6)
      have HW6 := Lib.hid (owns_fr HW5.out rd6 (by simp))
      have LK6 : Hid (w6.drew.ownsRow 0 143 4 (.slice ka s.ls.length kc) s.ls.length (rlinksC s.ls)) := Lib.hid (by have := H6.out.links; rw [hkv] at this; exact this)
      have C6 : Hid (∀ w', RSpAt w' O R p s z → (fun w' : World => w'.cell? ⟨p, 8, none⟩ = some (.slice ka s.ls.length kc) ∧ w'.cell? ⟨p, 4, none⟩ = some (.int .i64 s.fuel) ∧ w'.cell? ⟨p, 5, none⟩ = some (.int .i64 s.f) ∧ w'.cell? ⟨p, 6, none⟩ = some (.int .u64 s.at_)) w') := Lib.hid (fun w' h' => ⟨by rw [← hkv]; exact cell_of_heap h'.obj rfl, cell_of_heap h'.obj rfl, cell_of_heap h'.obj rfl, cell_of_heap h'.obj rfl⟩)
      clear rd6 c8
      refine Lex.region [16, 17, 20] [18, 3] (by kernel_rfl) (by kernel_rfl) ?_
      refine Lex.opens (fun w' => w'.cell? ⟨p, 8, none⟩ = some (.slice ka s.ls.length kc) ∧ w'.cell? ⟨p, 4, none⟩ = some (.int .i64 s.fuel) ∧ w'.cell? ⟨p, 5, none⟩ = some (.int .i64 s.f) ∧ w'.cell? ⟨p, 6, none⟩ = some (.int .u64 s.at_)) ((C6.out _ H6.out)) ?_
      repeat (first
        | (refine Lex.skips (by rfl) ?_; (try simp only [Act.put, List.setIfInBounds_toArray, List.set_cons_zero, List.set_cons_succ]))
        | (refine Lex.quiet (v := ?_) (by rfl) (by rfl) ?_ ?_; rotate_left; (focus (intro w' hS'; go_simp; try rfl)); (try simp only [Act.put, List.setIfInBounds_toArray, List.set_cons_zero, List.set_cons_succ])))
      refine Lex.loud (by rfl) (by rfl) ?_
      intro K' hK'
      go_simp
      have q7 : Fr no w6.drew (w6.alloc (.cells #[.int .i64 s.f, .int .u64 s.at_, .int .i64 back, .int .i64 res] 143)).drew := (Fr.refl no w6.drew).alloc (.cells #[.int .i64 s.f, .int .u64 s.at_, .int .i64 back, .int .i64 res] 143)
      have H7 := Lib.hid (H6.out.fr q7)
      have LK7 := Lib.hid (owns_fr LK6.out q7 (by simp))
      have HR7 : Hid (Reads (w6.alloc (.cells #[.int .i64 s.f, .int .u64 s.at_, .int .i64 back, .int .i64 res] 143)).drew (.slice (some ⟨w6.drew.heap.size, 0, none⟩) 1 1) 4 1 [.int .i64 s.f, .int .u64 s.at_, .int .i64 back, .int .i64 res]) := Lib.hid (reads_four w6.drew (.int .i64 s.f) (.int .u64 s.at_) (.int .i64 back) (.int .i64 res) 143)
      have SZ7 : Hid (((w6.alloc (.cells #[.int .i64 s.f, .int .u64 s.at_, .int .i64 back, .int .i64 res] 143)).drew).heap.size = w6.drew.heap.size + 1) := Lib.hid (by simp)
      have Q7 := Lib.hid q7
      clear q7
      refine hK' _ _ ((C6.out _ H7.out)) ?_
      clear hK'
      try simp only [Act.put, List.setIfInBounds_toArray, List.set_cons_zero, List.set_cons_succ]
      repeat (first
        | (refine Lex.skips (by rfl) ?_; (try simp only [Act.put, List.setIfInBounds_toArray, List.set_cons_zero, List.set_cons_succ]))
        | (refine Lex.quiet (v := ?_) (by rfl) (by rfl) ?_ ?_; rotate_left; (focus (intro w' hS'; go_simp; try rfl)); (try simp only [Act.put, List.setIfInBounds_toArray, List.set_cons_zero, List.set_cons_succ])))
      refine Lex.loud (by rfl) (by rfl) ?_
      intro K' hK'
      refine wp_append_at (.tmp 141) (.tmp 153) 133 rfl 0 143 (.agg #[.int .i64 0, .int .u64 0, .int .i64 0, .int .i64 0]) 4 32 Tryz.underlying133 Tryz.infoLink3 rfl (by decide) _ s.ls.length _ rfl LK7.out 1 _ HR7.out (four_mix _ _ _ _) (by have := HLL.out; unfold maxLen; omega) (by have := HLL.out; omega) (Nat.zero_le _) ?_
      intro ga gc w8 ho hg hb
      generalize (w6.alloc (.cells #[.int .i64 s.f, .int .u64 s.at_, .int .i64 back, .int .i64 res] 143)).drew = w7 at *
      have g8 := (Fr.refl (fun k => (Value.slice ka s.ls.length kc).ownBlock = some k) _).grown hg (fun k hk => .inl hk)
      have G8 := Lib.hid g8
      have OB8 := Lib.hid (g8.heap H7.out.obj (fun e => row_block_ne LK7.out H7.out.obj (by decide) e))
      have S8 : Hid ((fun w' : World => w'.cell? ⟨p, 8, none⟩ = some (.slice ka s.ls.length kc) ∧ w'.cell? ⟨p, 4, none⟩ = some (.int .i64 s.fuel) ∧ w'.cell? ⟨p, 5, none⟩ = some (.int .i64 s.f) ∧ w'.cell? ⟨p, 6, none⟩ = some (.int .u64 s.at_)) w8) := Lib.hid ⟨by rw [← hkv]; exact cell_of_heap OB8.out rfl, cell_of_heap OB8.out rfl, cell_of_heap OB8.out rfl, cell_of_heap OB8.out rfl⟩
      have HO8 := Lib.hid ho
      have HBK := Lib.hid hb
      have x8 : w8.cell? ⟨p, 8, none⟩ = some (.slice ka s.ls.length kc) := S8.out.1
      have y8 : w8.frozen? ⟨p, 8, none⟩ = false := frozen_of_heap OB8.out
      clear ho hg hb g8
      refine hK' _ _ (S8.out) ?_
      clear hK'
      try simp only [Act.put, List.setIfInBounds_toArray, List.set_cons_zero, List.set_cons_succ]
      repeat (first
        | (refine Lex.skips (by rfl) ?_; (try simp only [Act.put, List.setIfInBounds_toArray, List.set_cons_zero, List.set_cons_succ]))
        | (refine Lex.quiet (v := ?_) (by rfl) (by rfl) ?_ ?_; rotate_left; (focus (intro w' hS'; go_simp; try rfl)); (try simp only [Act.put, List.setIfInBounds_toArray, List.set_cons_zero, List.set_cons_succ])))
      refine Lex.done ?_
      refine Lex.opens (fun _ => True) (trivial) ?_
      repeat (first
        | (refine Lex.skips (by rfl) ?_; (try simp only [Act.put, List.setIfInBounds_toArray, List.set_cons_zero, List.set_cons_succ]))
        | (refine Lex.quiet (v := ?_) (by rfl) (by rfl) ?_ ?_; rotate_left; (focus (intro w' hS'; go_simp; try rfl)); (try simp only [Act.put, List.setIfInBounds_toArray, List.set_cons_zero, List.set_cons_succ])))
      refine Lex.loud (by rfl) (by rfl) ?_
      intro K' hK'
      go_simp
      refine hK' _ _ (trivial) ?_
      clear hK'
      try simp only [Act.put, List.setIfInBounds_toArray, List.set_cons_zero, List.set_cons_succ]
      refine Lex.done ?_
      refine Lex.ends ?_
      have r9 := (Fr.refl (only [p]) w8).setCell ⟨p, 8, none⟩ (.slice ga (s.ls.length + 1) gc) (.inl (by simp))
      have hs9 := H6.out.linkS (w' := w8.setCell ⟨p, 8, none⟩ (.slice ga (s.ls.length + 1) gc)) (l' := s.ls ++ [⟨s.f, s.at_, back, res⟩]) (kv' := .slice ga (s.ls.length + 1) gc)
        (((Q7.out.to (T := fun k => k = p ∨ z.kv.ownBlock = some k)).trans (G8.out.mono (fun k hk _ => .inr (by rw [hkv]; exact hk)))).trans (r9.mono (fun k hk _ => .inl (by simpa using hk)))) (heap_setCell (o := 8) OB8.out)
        (by rw [List.length_append, rlinksC_app]; exact owns_fr HO8.out r9 (fun k hk e => by simp at e; subst e; exact row_block_ne HO8.out OB8.out (by decide) hk))
        (fun k hk => by
          rcases HBK.out k hk with e | e
          · exact .inl (by rw [hkv]; exact e)
          · exact .inr (by rw [e, SZ7.out]; omega)) HOKL.out
      have HW7 := Lib.hid (owns_fr HW6.out Q7.out (by simp))
      have HW8 := Lib.hid (owns_fr HW7.out G8.out (fun k hk e => rows_ne HW7.out LK7.out (by decide) k hk e))
      have HW9 := Lib.hid (owns_fr HW8.out r9 (fun k hk e => by simp at e; subst e; exact row_block_ne HW8.out OB8.out (by decide) hk))
      have H9 := Lib.hid hs9
      clear r9 hs9 x8 y8 S8 C6
      generalize hw9 : w8.setCell ⟨p, 8, none⟩ (.slice ga (s.ls.length + 1) gc) = w9 at *
      clear hw9 OB8 HO8 HBK
      generalize hz4 : ({ z with kv := .slice ga (s.ls.length + 1) gc } : Rz) = z4 at *
      generalize hO4 : (fun k => O k ∨ (w6.drew.heap.size ≤ k ∧ k < w9.heap.size)) = O4 at *
      have HO4 : Hid ((∀ k, O k → O4 k) ∧ (∀ k, O4 k → O k ∨ w.heap.size ≤ k) ∧ ∀ k, O4 k → O k ∨ w6.drew.heap.size ≤ k) := Lib.hid (by
        subst hO4
        exact ⟨fun k h => .inl h, fun k h => h.imp id (fun h => Nat.le_trans R6.out.size h.1), fun k h => h.imp id (fun h => h.1)⟩)
      clear hz4 hO4
      have hd := H9.out.1
      have R9 := Lib.hid ((R6.out.to (T := O)).trans H9.out.2)
      have hm := hd.moveS (f := k) (t := s.at_ - r16 (8 * rn + an)) (pc := 0) HOKD.out
      have e5 : w9.cell? ⟨p, 5, none⟩ = some (.int .i64 s.f) := cell_of_heap hd.obj rfl
      have e6 : w9.cell? ⟨p, 6, none⟩ = some (.int .u64 s.at_) := cell_of_heap hd.obj rfl
      have e7 : w9.cell? ⟨p, 7, none⟩ = some (.int .i64 s.pc) := cell_of_heap hd.obj rfl
      have f5 : w9.frozen? ⟨p, 5, none⟩ = false := frozen_of_heap hd.obj
      have f6 : w9.frozen? ⟨p, 6, none⟩ = false := frozen_of_heap hd.obj
      have f7 : w9.frozen? ⟨p, 7, none⟩ = false := frozen_of_heap hd.obj
      have HWM := Lib.hid (owns_fr HW9.out hm.2 (fun k hk e => by simp at e; subst e; exact row_block_ne HW9.out hd.obj (by decide) hk))
      have HM := Lib.hid hm
      rw [← HX.out] at HM
      clear hd hm
      go_wp2_with fail
      generalize hw12 : ((w9.setCell ⟨p, 5, none⟩ (.int .i64 k)).setCell ⟨p, 6, none⟩ (.int .u64 (s.at_ - r16 (8 * rn + an) : Nat))).setCell ⟨p, 7, none⟩ (.int .i64 0) = w12 at *
      clear hw12 e5 e6 e7 f5 f6 f7
      have HS0 : Hid (RSpAt w12 O4 R p ((s.down k res back).layS 0 ((s.argsS ar).take 0)) z4) := Lib.hid HM.out.1
      have HWL : Hid (Reads w12 (.slice xa ar.length xc) 1 ar.length (u64s (s.argsS ar)) ∧ ∀ k, (Value.slice xa ar.length xc).ownBlock = some k → ¬ O4 k) := Lib.hid ⟨owns_reads HWM.out, fun k hk ho => by
        have h1 := HW6.out.lt k hk
        rcases HO4.out.2.2 k ho with h2 | h2
        · have := HLT.out k (.inl h2); omega
        · omega⟩
      go_loopw [19] (fun y wl => ∃ j : Nat, j ≤ ar.length ∧ y = .int .i64 j ∧ Hid (RSpAt wl O4 R p ((s.down k res back).layS 0 ((s.argsS ar).take j)) z4) ∧ Hid (Fr O4 w12 wl)) (fun y _ => (ar.length - intOf y).toNat)
      case atStart => exact ⟨0, by omega, by simp, HS0, Lib.hid (Fr.refl _ _)⟩
      case round =>
        obtain ⟨j, hj, rfl, hsl, hfl⟩ := hrel
        by_cases hjl : j < ar.length
        · have hlt : (j : Int) < ar.length := by omega
          have hjl2 : j < (s.argsS ar).length := by rw [HARL.out]; exact hjl
          obtain ⟨vb, vo, rfl, hc⟩ := (HWL.out.1.fr hfl.out (fun k hk => HWL.out.2 k hk)).at1 (k := j) (u := .int .u64 ((s.argsS ar)[j] : Nat)) (u64s_get hjl2)
          have hset := HSET.out j hjl2
          have HNX : Hid ((((s.down k res back).layS 0 ((s.argsS ar).take j)).setS j (s.argsS ar)[j]) = ((s.down k res back).layS 0 ((s.argsS ar).take (j + 1)), 0)) := Lib.hid (by rw [hset.1, layS_take _ hjl2])
          have HV8 := Lib.hid hset.2
          have HLS := Lib.hid (rset_ok wr j (s.argsS ar)[j] HV8.out hsl.out)
          rw [HNX.out] at HLS
          clear hset
          generalize (s.argsS ar)[j] = x at *
          go_wp2_with fail
          refine HLS.out.mono ?_
          rintro e wn ⟨rfl, hn, rn'⟩
          have HN := Lib.hid hn
          have RN := Lib.hid (hfl.out.trans rn')
          clear hn rn'
          go_wp2_with fail
          go_roundw
          case rel => exact ⟨j + 1, by omega, by go_num, HN, RN⟩
          case measure => first | (simp [intOf]; done) | (simp [intOf]; omega)
        · obtain rfl : j = ar.length := by omega
          have HF : Hid (RSpTo w wr O R p ((s.down k res back).layS 0 (s.argsS ar))) := Lib.hid (by
            have h1 := hsl.out
            rw [List.take_of_length_le (by rw [HARL.out]; omega)] at h1
            exact ⟨O4, z4, h1, (R9.out.trans (HM.out.2.mono (fun k hk _ => by simp at hk; subst hk; exact HOP.out))).trans' hfl.out (fun i hi hn => (HO4.out.2.1 i hi).resolve_left hn), HO4.out.1, HO4.out.2.1⟩)
          clear hsl hfl
          go_wp2_with fail
          go_ret
          exact ⟨rfl, HF.out⟩
end

end Go.Proofs.YtihnkijeefkefaaGreat

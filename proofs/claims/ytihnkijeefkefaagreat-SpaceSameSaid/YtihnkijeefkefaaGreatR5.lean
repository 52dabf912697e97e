import Derived.Test.YtihnkijeefkefaaGreatR4
set_option linter.unusedSimpArgs false
set_option linter.unusedVariables false
set_option linter.unusedSectionVars false
set_option linter.unnecessarySimpa false
set_option maxRecDepth 100000
/- The document's space: Call that may not be. -/
namespace Go.Proofs.YtihnkijeefkefaaGreat
open Go.RowKit

attribute [local go_sem] Program.isFuncB Program.isSliceB

variable {w w' w'' w0 : World} {O R : Nat → Prop} {p : Nat} {s s' : Zp} {z : Rz}

theorem Tryz.infoLink3 : (Tryz.prog.info? 143).map (fun i => (i.zero, i.size, i.bytes)) = some (some (.agg #[.int .i64 0, .int .u64 0, .int .i64 0, .int .i64 0]), 4, 32) := by kernel_rfl
section
variable {aa : Option Addr} {ac : Nat} {ar : List Int} {f res back : Int}
set_option maxHeartbeats 4000000 in
theorem rcall_9 (w : World) (h : RSpAt w O R p s z) (he : ¬ s.e.1 = 0) : Calls Tryz.prog 85 #[.pointer (some ⟨p, 0, none⟩), .int .i64 f, .slice aa ar.length ac, .int .i64 res, .int .i64 back] w fun e w' => e = .returned (.int .i64 9) ∧ RSpTo w w' O R p s := by
  have c9 : w.cell? ⟨p, 9, none⟩ = some (.int .i64 s.e.1) := cell_of_heap h.obj rfl
  have H := Lib.hid h
  have hb : (s.e.1 != 0) = true := by simpa using he
  clear h he
  go_enter Tryz.func85, Tryz.ntmps85
  go_wp2_with fail
  go_ret
  exact ⟨rfl, H.out.to (Fr.refl _ _)⟩
set_option maxHeartbeats 4000000 in
theorem rcall_2 (w : World) (h : RSpAt w O R p s z) (he : s.e.1 = 0) (hf : s.badF f ar.length = true) : Calls Tryz.prog 85 #[.pointer (some ⟨p, 0, none⟩), .int .i64 f, .slice aa ar.length ac, .int .i64 res, .int .i64 back] w fun e w' => e = .returned (.int .i64 2) ∧ RSpTo w w' O R p s := by
  have c9 : w.cell? ⟨p, 9, none⟩ = some (.int .i64 s.e.1) := cell_of_heap h.obj rfl
  have H := Lib.hid h
  rw [he] at c9
  simp only [Zp.badF, decide_eq_true_eq] at hf
  have c1 : w.cell? ⟨p, 1, none⟩ = some (.slice z.fa s.m.f.length z.fc) := cell_of_heap h.obj rfl
  by_cases h1 : f < 0
  · clear h he hf
    go_enter Tryz.func85, Tryz.ntmps85
    go_wp2_with fail
    go_ret
    exact ⟨rfl, H.out.to (Fr.refl _ _)⟩
  by_cases h2 : f ≥ s.m.f.length
  · clear h he hf
    go_enter Tryz.func85, Tryz.ntmps85
    go_wp2_with fail
    go_ret
    exact ⟨rfl, H.out.to (Fr.refl _ _)⟩
  obtain ⟨k, rfl⟩ : ∃ k : Nat, f = k := ⟨f.toNat, by omega⟩
  have hk : k < s.m.f.length := by omega
  have hne : ((ar.length : Int) != (fnOf s.m k).p) = true := by
    rw [bne_iff_ne]
    have := hf.resolve_left h1
    have := this.resolve_left (by omega)
    simpa using this
  obtain ⟨b, ob, hfa, cp, -⟩ := h.fn hk
  rw [hfa] at c1
  clear h he hf hfa
  generalize (fnOf s.m k).p = np at *
  go_enter Tryz.func85, Tryz.ntmps85
  go_wp2_with fail
  go_ret
  exact ⟨rfl, H.out.to (Fr.refl _ _)⟩
set_option maxHeartbeats 4000000 in
theorem rcall_5a (w : World) (h : RSpAt w O R p s z) (he : s.e.1 = 0) (hf : s.badF f ar.length = false) (hr : s.rg res = false ∨ isPl back = false) : Calls Tryz.prog 85 #[.pointer (some ⟨p, 0, none⟩), .int .i64 f, .slice aa ar.length ac, .int .i64 res, .int .i64 back] w fun e w' => e = .returned (.int .i64 5) ∧ RSpTo w w' O R p s := by
  have c9 : w.cell? ⟨p, 9, none⟩ = some (.int .i64 s.e.1) := cell_of_heap h.obj rfl
  have H := Lib.hid h
  rw [he] at c9
  simp only [Zp.badF, decide_eq_false_iff_not, not_or] at hf
  have h1 : ¬ f < 0 := hf.1
  have h2 : ¬ f ≥ s.m.f.length := by omega
  obtain ⟨k, rfl⟩ : ∃ k : Nat, f = k := ⟨f.toNat, by omega⟩
  have hk : k < s.m.f.length := by omega
  have hne : ((ar.length : Int) != (fnOf s.m k).p) = false := by
    rw [bne_eq_false_iff_eq]
    have := hf.2.2
    simpa using this
  have c1 : w.cell? ⟨p, 1, none⟩ = some (.slice z.fa s.m.f.length z.fc) := cell_of_heap h.obj rfl
  obtain ⟨b, ob, hfa, cp, -⟩ := h.fn hk
  rw [hfa] at c1
  clear h he hf hfa
  generalize (fnOf s.m k).p = np at *
  cases hres : s.rg res
  · clear hr
    go_enter Tryz.func85, Tryz.ntmps85
    go_wp2_with fail
    refine (rreg_ok _ res H.out).mono ?_
    rintro e w2 ⟨rfl, r2⟩
    have R2 := Lib.hid r2
    have H2 := Lib.hid (H.out.fr r2)
    clear r2
    rw [hres]
    go_wp2_with fail
    go_ret
    exact ⟨rfl, H2.out.to R2.out.to⟩
  have hb : isPl back = false := hr.resolve_left (by rw [hres]; decide)
  clear hr
  go_enter Tryz.func85, Tryz.ntmps85
  go_wp2_with fail
  refine (rreg_ok _ res H.out).mono ?_
  rintro e w2 ⟨rfl, r2⟩
  have R2 := Lib.hid r2
  have H2 := Lib.hid (H.out.fr r2)
  clear r2
  rw [hres]
  go_wp2_with fail
  refine (srefplace_ok _ back).mono ?_
  rintro e w3 ⟨rfl, rfl⟩
  rw [hb]
  go_wp2_with fail
  go_ret
  exact ⟨rfl, H2.out.to R2.out.to⟩
set_option maxHeartbeats 4000000 in
theorem rcall_5b (w : World) (h : RSpAt w O R p s z) (he : s.e.1 = 0) (hf : s.badF f ar.length = false) (hres : s.rg res = true) (hb : isPl back = true) (hany : ar.any (fun r => !s.rg r) = true) (hal : ar.length ≤ 1000000) (hv : Reads w (.slice aa ar.length ac) 1 ar.length (ints ar)) : Calls Tryz.prog 85 #[.pointer (some ⟨p, 0, none⟩), .int .i64 f, .slice aa ar.length ac, .int .i64 res, .int .i64 back] w fun e w' => e = .returned (.int .i64 5) ∧ RSpTo w w' O R p s := by
  have c9 : w.cell? ⟨p, 9, none⟩ = some (.int .i64 s.e.1) := cell_of_heap h.obj rfl
  have H := Lib.hid h
  have HV := Lib.hid hv
  have HEE := Lib.hid he
  have HANY : Hid (¬ ∀ r ∈ ar, s.rg r = true) := Lib.hid (fun h => by
    obtain ⟨r, hr, hb⟩ := List.any_eq_true.1 hany
    rw [h r hr] at hb
    exact absurd hb (by decide))
  have HLT := Lib.hid h.lt
  rw [he] at c9
  simp only [Zp.badF, decide_eq_false_iff_not, not_or] at hf
  have h1 : ¬ f < 0 := hf.1
  have h2 : ¬ f ≥ s.m.f.length := by omega
  obtain ⟨k, rfl⟩ : ∃ k : Nat, f = k := ⟨f.toNat, by omega⟩
  have hk : k < s.m.f.length := by omega
  have hne : ((ar.length : Int) != (fnOf s.m k).p) = false := by
    rw [bne_eq_false_iff_eq]
    have := hf.2.2
    simpa using this
  have c1 : w.cell? ⟨p, 1, none⟩ = some (.slice z.fa s.m.f.length z.fc) := cell_of_heap h.obj rfl
  obtain ⟨b, ob, hfa, cp, -⟩ := h.fn hk
  rw [hfa] at c1
  clear h he hf hfa hv hany
  generalize (fnOf s.m k).p = np at *
  go_enter Tryz.func85, Tryz.ntmps85
  go_wp2_with fail
  refine (rreg_ok _ res H.out).mono ?_
  rintro e w2 ⟨rfl, r2⟩
  have R2 := Lib.hid r2
  have H2 := Lib.hid (H.out.fr r2)
  clear r2
  rw [hres]
  go_wp2_with fail
  refine (srefplace_ok _ back).mono ?_
  rintro e w3 ⟨rfl, rfl⟩
  rw [hb]
  go_wp2_with fail
  go_loopw [11, 12] (fun x y wr => ∃ (j : Nat) (xa : Option Addr) (xc : Nat), j ≤ ar.length ∧ y = .int .i64 j ∧ x = .slice xa j xc ∧ Hid (∀ r ∈ ar.take j, s.rg r = true) ∧ Hid (wr.ownsRow w.heap.size 34 1 (.slice xa j xc) j (u64s (s.argsS (ar.take j)))) ∧ Hid (Fr no w wr) ∧ Hid (RSpAt wr O R p s z)) (fun _ y _ => (ar.length - intOf y).toNat)
  case atStart => exact ⟨0, none, 0, by omega, by simp, by simp, Lib.hid (by simp), Lib.hid (World.ownsRow_nil _ _ _ _), R2, H2⟩
  case round =>
    obtain ⟨j, xa, xc, hj, rfl, rfl, hgd, hown, hfr, hsp⟩ := hrel
    by_cases hjl : j < ar.length
    · have hlt : (j : Int) < ar.length := by omega
      obtain ⟨vb, vo, rfl, hc⟩ := (HV.out.fr hfr.out (by simp)).at1 (k := j) (u := .int .i64 ar[j]) (by simp [ints, hjl])
      have HG := Lib.hid (rget_ok wr ar[j] hsp.out)
      by_cases hrg : s.rg ar[j] = true
      case neg =>
        have hgs : s.getS ar[j] = (0, 5) := by simp [Zp.getS, HEE.out, hrg]
        rw [hgs] at HG
        clear hgs hgd hown hrg HV HANY
        generalize ar[j] = rj at *
        go_wp2_with fail
        refine HG.out.mono ?_
        rintro e w5 ⟨rfl, r5⟩
        have R5 := Lib.hid (hfr.out.trans r5)
        have H5 := Lib.hid (hsp.out.fr r5)
        clear r5
        go_wp2_with fail
        go_ret
        exact ⟨rfl, H5.out.to R5.out.to⟩
      have hgs : s.getS ar[j] = (rd8 s.b (s.at_ + 8 * (ar[j]).toNat), 0) := by simp [Zp.getS, HEE.out, hrg]
      rw [hgs] at HG
      have HNX : Hid (u64s (s.argsS (ar.take j)) ++ [.int .u64 (rd8 s.b (s.at_ + 8 * (ar[j]).toNat) : Nat)] = u64s (s.argsS (ar.take (j + 1)))) := Lib.hid (by rw [List.take_succ_eq_append_getElem hjl]; simp only [u64s, Zp.argsS, List.map_append, List.map_cons, List.map_nil])
      have HGD : Hid (∀ r ∈ ar.take (j + 1), s.rg r = true) := Lib.hid (fun r hr => by
        rw [List.take_succ_eq_append_getElem hjl, List.mem_append, List.mem_singleton] at hr
        rcases hr with hr | rfl
        · exact hgd.out r hr
        · exact hrg)
      clear hgs hrg hgd
      generalize rd8 s.b (s.at_ + 8 * (ar[j]).toNat) = x at *
      generalize ar[j] = rj at *
      go_wp2_with fail
      refine HG.out.mono ?_
      rintro e w5 ⟨rfl, r5⟩
      have hfr5 := hfr.out.trans r5
      have OD := Lib.hid ((owns_fr hown.out r5 (by simp)).alloc (.cells #[.int .u64 (x : Int)] 34))
      have ra := (Fr.refl no w5).alloc (.cells #[.int .u64 (x : Int)] 34)
      have RA := Lib.hid (hfr5.trans ra)
      have HSA := Lib.hid ((hsp.out.fr r5).fr ra)
      clear ra hfr5 r5
      go_wp2_with (at_builtin; (refine wpList_append_at rfl (.tmp 82) _ 58 rfl w.heap.size 34 (.int .u64 0) 1 8 Tryz.underlying58 Tryz.infoU64 rfl (by decide) _ j _ rfl OD.out 1 [.int .u64 x] (reads_one _ _ _) int_one (by unfold maxLen; omega) (by omega) RA.out.size ?_); intro ga gc w6 ho hg hbk)
      have HO6 : Hid (w6.ownsRow w.heap.size 34 1 (.slice ga (j + 1) gc) (j + 1) (u64s (s.argsS (ar.take (j + 1))))) := Lib.hid (by rw [← HNX.out]; exact ho)
      have hge : ∀ i, (Value.slice xa j xc).ownBlock = some i → w.heap.size ≤ i := fun i hi => (OD.out.lt i hi).1
      have hlt4 : ∀ i, O i ∨ R i → i < w.heap.size := HLT.out
      have rg := (Fr.refl (fun k => (Value.slice xa j xc).ownBlock = some k) _).grown hg (fun k hk => .inl hk)
      have R6 := Lib.hid (RA.out.trans' rg (fun k hk _ => hge k hk))
      have H6 := Lib.hid (HSA.out.frx rg (fun k hk _ => ⟨fun ho => by have := hge k hk; have := hlt4 k (.inl ho); omega, fun ho => by have := hge k hk; have := hlt4 k (.inr ho); omega⟩))
      clear ho hg hbk hge hlt4 rg
      go_roundw
      case rel => exact ⟨j + 1, ga, gc, by omega, by go_num, rfl, HGD, HO6, R6, H6⟩
      case measure => first | (simp [intOf]; done) | (simp [intOf]; omega)
    · obtain rfl : j = ar.length := by omega
      exact absurd (by rw [List.take_length] at hgd; exact hgd.out) HANY.out
end

end Go.Proofs.YtihnkijeefkefaaGreat

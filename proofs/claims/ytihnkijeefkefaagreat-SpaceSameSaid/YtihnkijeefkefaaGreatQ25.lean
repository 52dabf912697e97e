import Derived.Test.YtihnkijeefkefaaGreatQ24
set_option linter.unusedSimpArgs false
set_option linter.unusedVariables false
set_option linter.unusedSectionVars false
set_option linter.unnecessarySimpa false
set_option maxRecDepth 100000
/- The program's New. -/
namespace Go.Proofs.YtihnkijeefkefaaGreat
open Go.RowKit

attribute [local go_sem] Program.isFuncB Program.isSliceB

variable {w w' w'' w0 : World} {p : Nat} {s s' : Zp} {z : Pz}

theorem CodeOwn.low {S : Nat → Prop} {base : Nat} {v : Value} {is : List Ix} (h : CodeOwn w base v is) (r : Fr S w w') (hS : ∀ k, S k → k < base) : CodeOwn w' base v is := by
  obtain ⟨l, e, h1, h2⟩ := h
  have hh : ∀ {e : TypeId} {z n : Nat} {u : Value} {xs : List Value}, w.ownsRow base e z u n xs → ∀ k, u.ownBlock = some k → ¬ S k := fun ho k hk hs => by
    have := (ho.lt k hk).1; have := hS k hs; omega
  exact ⟨l, e, owns_fr h1 r (hh h1), fun p hp => owns_fr (h2 p hp) r (hh (h2 p hp))⟩
theorem ModOwn.low {S : Nat → Prop} {base : Nat} {m : Mx} {xa oa : Option Addr} {xc oc : Nat} (h : ModOwn w base m xa xc oa oc) (r : Fr S w w') (hS : ∀ k, S k → k < base) : ModOwn w' base m xa xc oa oc := by
  obtain ⟨h1, l, h2, h3⟩ := h
  have hh : ∀ {e : TypeId} {z n : Nat} {u : Value} {xs : List Value}, w.ownsRow base e z u n xs → ∀ k, u.ownBlock = some k → ¬ S k := fun ho k hk hs => by
    have := (ho.lt k hk).1; have := hS k hs; omega
  exact ⟨owns_fr h1 r (hh h1), l, h2, ⟨owns_fr h3.row r (hh h3.row), fun p hp => (h3.code p hp).low r hS⟩⟩
/-- the space that New tells: all of it is new -/
def NewAt (w w' : World) (p : Nat) (s : Zp) (O R : Nat → Prop) (z : Pz) : Prop := SpAt w' O R p s z ∧ (∀ k, O k → w.heap.size ≤ k) ∧ (∀ k, R k → w.heap.size ≤ k) ∧ Fr no w w'
theorem Made.space {w3 w4 : World} {m : Mx} {n : Nat} {inp : List Nat} {fuel : Int} {xa ya : Option Addr} {xc yc : Nat} {iv : Value} (ha : NewArg m n inp fuel) (h : Made w4 w' p (.int .u32 1) (.int .i32 0) (.int .u32 0) (.int .i64 0) xa xc ya yc iv (newS m n inp fuel) z)
    (hmo : ModOwn w3 w.heap.size m xa xc ya yc) (hiv : w3.ownsRow w.heap.size 5 1 iv inp.length (u8s inp)) (hp : p = w3.heap.size) (h34 : w3.heap.size ≤ w4.heap.size) (r3 : Fr no w3 w') (rw' : Fr no w w') (hb : w.heap.size ≤ w3.heap.size) :
    NewAt w w' p (newS m n inp fuel) (fun k => k = p ∨ k = z.g ∨ k = z.t) (fun k => w.heap.size ≤ k ∧ k < w'.heap.size ∧ ¬ (k = p ∨ k = z.g ∨ k = z.t)) z := by
  obtain ⟨curg, hg, -⟩ := h.mem.block
  have szp : p < w'.heap.size := (Array.getElem?_eq_some_iff.1 h.obj).1
  have szg : z.g < w'.heap.size := (Array.getElem?_eq_some_iff.1 hg).1
  have szt : z.t < w'.heap.size := (Array.getElem?_eq_some_iff.1 h.tape.obj).1
  have szq : z.q < w'.heap.size := (Array.getElem?_eq_some_iff.1 h.mem.obj).1
  have hqp : z.q ≠ p := block_ne h.mem.obj h.obj (by decide)
  have hqt : z.q ≠ z.t := block_ne h.mem.obj h.tape.obj (by decide)
  have bg := h.bg
  have bt := h.bt
  have bq := h.bq
  have hms : ∀ (s : Zp), s = newS m n inp fuel → s.m = m ∧ s.inp = inp ∧ s.ls = [] := by
    intro s hs
    subst hs
    unfold newS
    split
    · have sm := layS_same (List.replicate (fnOf m 0).p.toNat 0) (sp1 m n inp fuel) 0
      exact ⟨sm.1, sm.2.1, sm.2.2.2.2.2.2.2.2.1⟩
    · exact ⟨rfl, rfl, rfl⟩
  obtain ⟨e1, e2, e3⟩ := hms _ rfl
  refine ⟨⟨h.obj, h.mem, h.tape, by rw [h.ekv, e3]; exact World.ownsRow_nil _ _ _ _, ?_, ha.ok, .inl rfl, .inr (.inl rfl), .inr (.inr rfl), fun k hk => (by rw [h.elv] at hk; cases hk), fun k hk => (by rw [h.ekv] at hk; cases hk), ⟨by omega, szq, fun e => ?_⟩, fun k hk => ⟨by have := h.bv k hk; omega, (h.tape.inn.lt k hk).2, fun e => ?_⟩, fun k ho hr => hr.2.2 ho, fun k hk => ?_⟩, fun k hk => ?_, fun k hk => hk.1, rw'⟩
  · intro w2 r2
    have r : Fr (fun k => k < w.heap.size) w3 w2 := (r3.to).trans' r2 (fun k hk hn => by
      by_cases hlt : w3.heap.size ≤ k
      · exact hlt
      · exact absurd ⟨by omega, by have := r3.size; omega, by omega⟩ hk)
    rw [e1, e2, h.eda, h.edc, h.efa, h.eiv]
    exact ⟨(hmo.low r (fun k hk => hk)).modIn, owns_reads (owns_fr hiv r (fun k hk hs => by have := (hiv.lt k hk).1; omega))⟩
  · rcases e with e | e | e
    · exact hqp e
    · exact h.mem.ne e
    · exact hqt e
  · rcases e with e | e | e
    · subst e; exact row_block_ne h.tape.inn h.obj (by decide) hk
    · subst e; exact h.ng hk
    · subst e; exact row_block_ne h.tape.inn h.tape.obj (by decide) hk
  · rcases hk with (rfl | rfl | rfl) | hk
    · exact szp
    · exact szg
    · exact szt
    · exact hk.2.1
  · rcases hk with rfl | rfl | rfl <;> omega

def newBad (m : Mx) (n fuel : Int) : Prop := modCk m ≠ 0 ∨ fuel < 0 ∨ 10000000 < fuel ∨ n < 16 ∨ 65536 < n ∨ n % 16 ≠ 0
section
variable {m : Mx} {inp : List Nat} {fuel n : Int} {da fa ia : Option Addr} {dc fc ic : Nat}
set_option maxHeartbeats 2000000 in
theorem snew_bad (w : World) (hm : ModRd w m da dc fa fc) (hs : m.Small) (hb : newBad m n fuel) : Calls Tryz.prog 13 #[.agg #[.slice da m.d.length dc, .slice fa m.f.length fc], .int .i64 n, .slice ia inp.length ic, .int .i64 fuel] w fun e w' => e = .returned (.tuple #[.pointer none, .int .i64 2]) ∧ Fr no w w' := by
  by_cases h1 : modCk m ≠ 0
  · clear hb
    have r1 := (Fr.refl no w).alloc (.cells #[.slice da m.d.length dc, .slice fa m.f.length fc] 25)
    have hb1 := heap_new w (.cells #[.slice da m.d.length dc, .slice fa m.f.length fc] 25)
    have HC := Lib.hid (check_mod _ m da dc fa fc (hm.modIn.fr r1) hs)
    have lm := load_mod _ _ _ _ hb1
    have HB := Lib.hid hb1
    have R1 := Lib.hid r1
    have e1 : (modCk m != 0) = true := bne_iff_ne.2 h1
    generalize modCk m = ck at *
    clear h1 hs
    clear hb1 r1 hm
    go_enter Tryz.func13, Tryz.ntmps13
    go_wp2_with fail
    refine HC.out.mono ?_
    rintro e w1 ⟨rfl, r2⟩
    have R2 := Lib.hid (R1.out.trans r2)
    clear lm
    clear r2
    go_wp2_with fail
    go_ret2
    exact ⟨rfl, R2.out⟩
  have h1 : modCk m = 0 := Decidable.not_not.1 h1
  by_cases h2 : fuel < 0
  · clear hb
    have r1 := (Fr.refl no w).alloc (.cells #[.slice da m.d.length dc, .slice fa m.f.length fc] 25)
    have hb1 := heap_new w (.cells #[.slice da m.d.length dc, .slice fa m.f.length fc] 25)
    have HC := Lib.hid (check_mod _ m da dc fa fc (hm.modIn.fr r1) hs)
    have lm := load_mod _ _ _ _ hb1
    have HB := Lib.hid hb1
    have R1 := Lib.hid r1
    rw [h1] at HC
    clear hs h1
    clear hb1 r1 hm
    go_enter Tryz.func13, Tryz.ntmps13
    go_wp2_with fail
    refine HC.out.mono ?_
    rintro e w1 ⟨rfl, r2⟩
    have R2 := Lib.hid (R1.out.trans r2)
    clear lm
    clear r2
    go_wp2_with fail
    go_ret2
    exact ⟨rfl, R2.out⟩
  by_cases h3 : 10000000 < fuel
  · clear hb
    have r1 := (Fr.refl no w).alloc (.cells #[.slice da m.d.length dc, .slice fa m.f.length fc] 25)
    have hb1 := heap_new w (.cells #[.slice da m.d.length dc, .slice fa m.f.length fc] 25)
    have HC := Lib.hid (check_mod _ m da dc fa fc (hm.modIn.fr r1) hs)
    have lm := load_mod _ _ _ _ hb1
    have HB := Lib.hid hb1
    have R1 := Lib.hid r1
    have e3 : fuel > 10000000 := h3
    rw [h1] at HC
    clear hs h1 h3
    clear hb1 r1 hm
    go_enter Tryz.func13, Tryz.ntmps13
    go_wp2_with fail
    refine HC.out.mono ?_
    rintro e w1 ⟨rfl, r2⟩
    have R2 := Lib.hid (R1.out.trans r2)
    clear lm
    clear r2
    go_wp2_with fail
    go_ret2
    exact ⟨rfl, R2.out⟩
  by_cases h4 : n < 16
  · clear hb
    have r1 := (Fr.refl no w).alloc (.cells #[.slice da m.d.length dc, .slice fa m.f.length fc] 25)
    have hb1 := heap_new w (.cells #[.slice da m.d.length dc, .slice fa m.f.length fc] 25)
    have HC := Lib.hid (check_mod _ m da dc fa fc (hm.modIn.fr r1) hs)
    have lm := load_mod _ _ _ _ hb1
    have HB := Lib.hid hb1
    have R1 := Lib.hid r1
    have e3 : ¬ fuel > 10000000 := h3
    rw [h1] at HC
    clear hs h1 h3
    clear hb1 r1 hm
    go_enter Tryz.func13, Tryz.ntmps13
    go_wp2_with fail
    refine HC.out.mono ?_
    rintro e w1 ⟨rfl, r2⟩
    have R2 := Lib.hid (R1.out.trans r2)
    clear lm
    clear r2
    go_wp2_with fail
    go_ret2
    exact ⟨rfl, R2.out⟩
  by_cases h5 : 65536 < n
  · clear hb
    have r1 := (Fr.refl no w).alloc (.cells #[.slice da m.d.length dc, .slice fa m.f.length fc] 25)
    have hb1 := heap_new w (.cells #[.slice da m.d.length dc, .slice fa m.f.length fc] 25)
    have HC := Lib.hid (check_mod _ m da dc fa fc (hm.modIn.fr r1) hs)
    have lm := load_mod _ _ _ _ hb1
    have HB := Lib.hid hb1
    have R1 := Lib.hid r1
    have e3 : ¬ fuel > 10000000 := h3
    have e5 : n > 65536 := h5
    rw [h1] at HC
    clear hs h1 h3 h5
    clear hb1 r1 hm
    go_enter Tryz.func13, Tryz.ntmps13
    go_wp2_with fail
    refine HC.out.mono ?_
    rintro e w1 ⟨rfl, r2⟩
    have R2 := Lib.hid (R1.out.trans r2)
    clear lm
    clear r2
    go_wp2_with fail
    go_ret2
    exact ⟨rfl, R2.out⟩
  obtain ⟨k, rfl⟩ : ∃ k : Nat, n = k := ⟨n.toNat, by omega⟩
  have h6 : k % 16 ≠ 0 := by
    rcases hb with h | h | h | h | h | h
    · exact absurd h1 h
    · exact absurd h h2
    · exact absurd h h3
    · exact absurd h h4
    · exact absurd h h5
    · omega
  clear hb
  have r1 := (Fr.refl no w).alloc (.cells #[.slice da m.d.length dc, .slice fa m.f.length fc] 25)
  have hb1 := heap_new w (.cells #[.slice da m.d.length dc, .slice fa m.f.length fc] 25)
  have HC := Lib.hid (check_mod _ m da dc fa fc (hm.modIn.fr r1) hs)
  have lm := load_mod _ _ _ _ hb1
  have HB := Lib.hid hb1
  have R1 := Lib.hid r1
  have hrm : (k : Int) % 16 = ((k % 16 : Nat) : Int) := by omega
  have e3 : ¬ fuel > 10000000 := h3
  have e5 : ¬ (k : Int) > 65536 := h5
  have e6 : (((k % 16 : Nat) : Int) != 0) = true := bne_iff_ne.2 (by omega)
  rw [h1] at HC
  clear hs h1 h3 h5 h6
  generalize k % 16 = r at *
  clear hb1 r1 hm
  go_enter Tryz.func13, Tryz.ntmps13
  go_wp2_with fail
  refine HC.out.mono ?_
  rintro e w1 ⟨rfl, r2⟩
  have R2 := Lib.hid (R1.out.trans r2)
  clear lm
  clear r2
  go_wp2_with fail
  go_ret2
  exact ⟨rfl, R2.out⟩
set_option maxHeartbeats 4000000 in
theorem snew_full (w : World) (hm : ModRd w m da dc fa fc) (hs : m.Small) (hin : Reads w (.slice ia inp.length ic) 1 inp.length (u8s inp)) (hil : inp.length ≤ 100000) (hb : ¬ newBad m n fuel) (hfl : n < flr m) : Calls Tryz.prog 13 #[.agg #[.slice da m.d.length dc, .slice fa m.f.length fc], .int .i64 n, .slice ia inp.length ic, .int .i64 fuel] w fun e w' => e = .returned (.tuple #[.pointer none, .int .i64 8]) ∧ Fr no w w' := by
  have r1 := (Fr.refl no w).alloc (.cells #[.slice da m.d.length dc, .slice fa m.f.length fc] 25)
  have hb1 := heap_new w (.cells #[.slice da m.d.length dc, .slice fa m.f.length fc] 25)
  have HC := Lib.hid (check_mod _ m da dc fa fc (hm.modIn.fr r1) hs)
  have lm := load_mod _ _ _ _ hb1
  have HB := Lib.hid hb1
  have R1 := Lib.hid r1
  have HRD := Lib.hid hm
  have HIN := Lib.hid hin
  have HSM := Lib.hid hs
  have HNB : Hid (modCk m = 0 ∧ ¬ fuel < 0 ∧ ¬ 10000000 < fuel ∧ ¬ n < 16 ∧ ¬ 65536 < n ∧ n % 16 = 0) := Lib.hid (by
    unfold newBad at hb
    refine ⟨Decidable.not_not.1 (fun h => hb (.inl h)), fun h => hb (.inr (.inl h)), fun h => hb (.inr (.inr (.inl h))), fun h => hb (.inr (.inr (.inr (.inl h)))), fun h => hb (.inr (.inr (.inr (.inr (.inl h))))), Decidable.not_not.1 (fun h => hb (.inr (.inr (.inr (.inr (.inr h))))))⟩)
  obtain ⟨h1, h2, h3, h4, h5, h6⟩ := HNB.out
  obtain ⟨k, rfl⟩ : ∃ k : Nat, n = k := ⟨n.toNat, by omega⟩
  have hrm : (k : Int) % 16 = 0 := h6
  have e3 : ¬ fuel > 10000000 := h3
  have e5 : ¬ (k : Int) > 65536 := h5
  have HM1 := Lib.hid (ck_len h1).2.1
  have HIL := Lib.hid hil
  have HFL : Hid (k < flr m) := Lib.hid (by omega)
  rw [h1] at HC
  clear hb1 r1 hm hin hs hb h1 h3 h5 h6 hil hfl
  go_enter Tryz.func13, Tryz.ntmps13
  go_wp2_with fail
  refine HC.out.mono ?_
  rintro e w1 ⟨rfl, r2⟩
  have R2 := Lib.hid (R1.out.trans r2)
  clear lm
  have hb2 := r2.heap HB.out (by simp)
  have HRD2 := Lib.hid (HRD.out.fr R2.out)
  have m0 := cell_of_heap (o := 0) hb2 rfl
  have m1 := cell_of_heap (o := 1) hb2 rfl
  have HB2 := Lib.hid hb2
  clear r2 hb2
  go_wp2_with fail
  refine (copied_ok _ m da dc fa fc HRD2.out HSM.out HM1.out).mono ?_
  rintro e w3 ⟨xa, xc, ya, yc, rfl, hmo, r3⟩
  have HMO := Lib.hid (hmo.base R2.out.size)
  have R3 := Lib.hid (R2.out.trans r3)
  clear hmo r3 m0 m1
  go_wp2_with fail
  refine (clone_bytes _ _ inp (HIN.out.fr R3.out (by simp)) (by have := HIL.out; omega)).mono ?_
  rintro e w4 ⟨iv, rfl, hiv, r4⟩
  obtain ⟨va, vc, rfl⟩ := owns_shape hiv
  have R4 := Lib.hid (R3.out.trans r4)
  have HIV := Lib.hid (owns_base (base' := w.heap.size) hiv (fun k hk => Nat.le_trans R3.out.size (hiv.lt k hk).1))
  have HMO4 := Lib.hid (HMO.out.low r4 (fun k hk => hk.elim))
  clear hiv r4
  have r5 := (Fr.refl no w4).alloc (.cells (iniC (.int .u32 0) (.int .i32 0) (.int .u32 0) (.int .i64 0) m xa xc ya yc (.slice va inp.length vc) k 0) 94)
  have hn5 := heap_new w4 (.cells (iniC (.int .u32 0) (.int .i32 0) (.int .u32 0) (.int .i64 0) m xa xc ya yc (.slice va inp.length vc) k 0) 94)
  have sz5 : (w4.alloc (.cells (iniC (.int .u32 0) (.int .i32 0) (.int .u32 0) (.int .i64 0) m xa xc ya yc (.slice va inp.length vc) k 0) 94)).heap.size = w4.heap.size + 1 := by simp
  have hw5 : ∃ w5, w5 = w4.alloc (.cells (iniC (.int .u32 0) (.int .i32 0) (.int .u32 0) (.int .i64 0) m xa xc ya yc (.slice va inp.length vc) k 0) 94) := ⟨_, rfl⟩
  obtain ⟨w5, hw5⟩ := hw5
  rw [← hw5] at r5 hn5 sz5
  have c10 : w5.cell? ⟨w4.heap.size, 10, none⟩ = some (.int .i64 0) := cell_of_heap hn5 rfl
  have f10 : w5.frozen? ⟨w4.heap.size, 10, none⟩ = false := frozen_of_heap hn5
  have HN5 := Lib.hid hn5
  have R5 := Lib.hid r5
  have SZ5 := Lib.hid sz5
  unfold iniC at hw5
  clear r5 hn5 sz5
  go_upto_region 4 with (fail)
  rw [← hw5]
  clear hw5
  go_wp2_with fail
  refine (astore_ok _ _ fuel _ c10 f10).mono ?_
  rintro e w' ⟨rfl, rfl⟩
  have HN6 : Hid ((w5.setCell ⟨w4.heap.size, 10, none⟩ (.int .i64 fuel)).heap[w4.heap.size]? = some (.cells (iniC (.int .u32 0) (.int .i32 0) (.int .u32 0) (.int .i64 0) m xa xc ya yc (.slice va inp.length vc) k fuel) 94 (0, 0))) := Lib.hid (heap_setCell (o := 10) HN5.out)
  have R46 : Hid (Fr no w4 (w5.setCell ⟨w4.heap.size, 10, none⟩ (.int .i64 fuel))) := Lib.hid (R5.out.setCell ⟨w4.heap.size, 10, none⟩ _ (.inr (Nat.le_refl _)))
  have SZ6 : Hid (w4.heap.size ≤ (w5.setCell ⟨w4.heap.size, 10, none⟩ (.int .i64 fuel)).heap.size) := Lib.hid R46.out.size
  clear c10 f10
  generalize w5.setCell ⟨w4.heap.size, 10, none⟩ (.int .i64 fuel) = w6 at *
  go_wp2_with fail
  refine (smade_full w6 HN6.out (by have := HSM.out.data; omega) (by have := HNB.out.2.2.2.1; omega) (by have := HNB.out.2.2.2.2.1; omega) HFL.out).mono ?_
  rintro e w7 ⟨rfl, r7⟩
  have R7 := Lib.hid (R4.out.trans (R46.out.trans' r7 (fun i hi _ => by simp at hi; omega)))
  clear r7
  go_wp2_with fail
  go_ret2
  exact ⟨rfl, R7.out⟩
set_option maxHeartbeats 4000000 in
theorem snew_ok (w : World) (hm : ModRd w m da dc fa fc) (hs : m.Small) (hin : Reads w (.slice ia inp.length ic) 1 inp.length (u8s inp)) (hil : inp.length ≤ 100000) (hib : ∀ x ∈ inp, x < 256) (hb : ¬ newBad m n fuel) (hfl : flr m ≤ n) : Calls Tryz.prog 13 #[.agg #[.slice da m.d.length dc, .slice fa m.f.length fc], .int .i64 n, .slice ia inp.length ic, .int .i64 fuel] w fun e w' => ∃ p O R z, e = .returned (.tuple #[.pointer (some ⟨p, 0, none⟩), .int .i64 0]) ∧ NewAt w w' p (newS m n.toNat inp fuel) O R z := by
  have r1 := (Fr.refl no w).alloc (.cells #[.slice da m.d.length dc, .slice fa m.f.length fc] 25)
  have hb1 := heap_new w (.cells #[.slice da m.d.length dc, .slice fa m.f.length fc] 25)
  have HC := Lib.hid (check_mod _ m da dc fa fc (hm.modIn.fr r1) hs)
  have lm := load_mod _ _ _ _ hb1
  have HB := Lib.hid hb1
  have R1 := Lib.hid r1
  have HRD := Lib.hid hm
  have HIN := Lib.hid hin
  have HSM := Lib.hid hs
  have HNB : Hid (modCk m = 0 ∧ ¬ fuel < 0 ∧ ¬ 10000000 < fuel ∧ ¬ n < 16 ∧ ¬ 65536 < n ∧ n % 16 = 0) := Lib.hid (by
    unfold newBad at hb
    refine ⟨Decidable.not_not.1 (fun h => hb (.inl h)), fun h => hb (.inr (.inl h)), fun h => hb (.inr (.inr (.inl h))), fun h => hb (.inr (.inr (.inr (.inl h)))), fun h => hb (.inr (.inr (.inr (.inr (.inl h))))), Decidable.not_not.1 (fun h => hb (.inr (.inr (.inr (.inr (.inr h))))))⟩)
  obtain ⟨h1, h2, h3, h4, h5, h6⟩ := HNB.out
  obtain ⟨k, rfl⟩ : ∃ k : Nat, n = k := ⟨n.toNat, by omega⟩
  have hrm : (k : Int) % 16 = 0 := h6
  have e3 : ¬ fuel > 10000000 := h3
  have e5 : ¬ (k : Int) > 65536 := h5
  have HM1 := Lib.hid (ck_len h1).2.1
  have HIL := Lib.hid hil
  have HFL : Hid (flr m ≤ k) := Lib.hid (by omega)
  have HIB := Lib.hid hib
  rw [Int.toNat_natCast]
  rw [h1] at HC
  clear hb1 r1 hm hin hs hb h1 h3 h5 h6 hil hfl hib
  go_enter Tryz.func13, Tryz.ntmps13
  go_wp2_with fail
  refine HC.out.mono ?_
  rintro e w1 ⟨rfl, r2⟩
  have R2 := Lib.hid (R1.out.trans r2)
  clear lm
  have hb2 := r2.heap HB.out (by simp)
  have HRD2 := Lib.hid (HRD.out.fr R2.out)
  have m0 := cell_of_heap (o := 0) hb2 rfl
  have m1 := cell_of_heap (o := 1) hb2 rfl
  have HB2 := Lib.hid hb2
  clear r2 hb2
  go_wp2_with fail
  refine (copied_ok _ m da dc fa fc HRD2.out HSM.out HM1.out).mono ?_
  rintro e w3 ⟨xa, xc, ya, yc, rfl, hmo, r3⟩
  have HMO := Lib.hid (hmo.base R2.out.size)
  have R3 := Lib.hid (R2.out.trans r3)
  clear hmo r3 m0 m1
  go_wp2_with fail
  refine (clone_bytes _ _ inp (HIN.out.fr R3.out (by simp)) (by have := HIL.out; omega)).mono ?_
  rintro e w4 ⟨iv, rfl, hiv, r4⟩
  obtain ⟨va, vc, rfl⟩ := owns_shape hiv
  have R4 := Lib.hid (R3.out.trans r4)
  have HIV := Lib.hid (owns_base (base' := w.heap.size) hiv (fun k hk => Nat.le_trans R3.out.size (hiv.lt k hk).1))
  have HMO4 := Lib.hid (HMO.out.low r4 (fun k hk => hk.elim))
  clear hiv r4
  have r5 := (Fr.refl no w4).alloc (.cells (iniC (.int .u32 0) (.int .i32 0) (.int .u32 0) (.int .i64 0) m xa xc ya yc (.slice va inp.length vc) k 0) 94)
  have hn5 := heap_new w4 (.cells (iniC (.int .u32 0) (.int .i32 0) (.int .u32 0) (.int .i64 0) m xa xc ya yc (.slice va inp.length vc) k 0) 94)
  have sz5 : (w4.alloc (.cells (iniC (.int .u32 0) (.int .i32 0) (.int .u32 0) (.int .i64 0) m xa xc ya yc (.slice va inp.length vc) k 0) 94)).heap.size = w4.heap.size + 1 := by simp
  have hw5 : ∃ w5, w5 = w4.alloc (.cells (iniC (.int .u32 0) (.int .i32 0) (.int .u32 0) (.int .i64 0) m xa xc ya yc (.slice va inp.length vc) k 0) 94) := ⟨_, rfl⟩
  obtain ⟨w5, hw5⟩ := hw5
  rw [← hw5] at r5 hn5 sz5
  have c10 : w5.cell? ⟨w4.heap.size, 10, none⟩ = some (.int .i64 0) := cell_of_heap hn5 rfl
  have f10 : w5.frozen? ⟨w4.heap.size, 10, none⟩ = false := frozen_of_heap hn5
  have HN5 := Lib.hid hn5
  have R5 := Lib.hid r5
  have SZ5 := Lib.hid sz5
  unfold iniC at hw5
  clear r5 hn5 sz5
  go_upto_region 4 with (fail)
  rw [← hw5]
  clear hw5
  go_wp2_with fail
  refine (astore_ok _ _ fuel _ c10 f10).mono ?_
  rintro e w' ⟨rfl, rfl⟩
  have HN6 : Hid ((w5.setCell ⟨w4.heap.size, 10, none⟩ (.int .i64 fuel)).heap[w4.heap.size]? = some (.cells (iniC (.int .u32 0) (.int .i32 0) (.int .u32 0) (.int .i64 0) m xa xc ya yc (.slice va inp.length vc) k fuel) 94 (0, 0))) := Lib.hid (heap_setCell (o := 10) HN5.out)
  have R46 : Hid (Fr no w4 (w5.setCell ⟨w4.heap.size, 10, none⟩ (.int .i64 fuel))) := Lib.hid (R5.out.setCell ⟨w4.heap.size, 10, none⟩ _ (.inr (Nat.le_refl _)))
  have SZ6 : Hid (w4.heap.size ≤ (w5.setCell ⟨w4.heap.size, 10, none⟩ (.int .i64 fuel)).heap.size) := Lib.hid R46.out.size
  clear c10 f10
  generalize w5.setCell ⟨w4.heap.size, 10, none⟩ (.int .i64 fuel) = w6 at *
  go_wp2_with fail
  have HAR : Hid (NewArg m k inp fuel) := Lib.hid ⟨HNB.out.1, HSM.out, by have := HNB.out.2.2.2.1; omega, by have := HNB.out.2.2.2.2.1; omega, by have := HNB.out.2.2.2.2.2; omega, HFL.out, HIL.out, HIB.out, by have := HNB.out.2.1; omega, by have := HNB.out.2.2.1; omega⟩
  refine (smade_first w6 HAR.out HN6.out (HMO4.out.low R46.out (fun k hk => hk.elim)).modIn (fun w' r => by
    have r' := R46.out.trans' r (fun i hi _ => by simp at hi; omega)
    exact ⟨(HMO4.out.low r' (fun k hk => hk.elim)).modIn, owns_reads (owns_fr HIV.out r' (by simp))⟩) (owns_reads (owns_fr HIV.out R46.out (by simp)))).mono ?_
  rintro e w7 ⟨rfl, z, hz⟩
  have R47 := Lib.hid (R46.out.trans' hz.fr (fun i hi _ => by simp at hi; omega))
  have HNA := Lib.hid (hz.space (w := w) HAR.out HMO4.out HIV.out rfl SZ6.out R47.out (R4.out.trans R47.out) R4.out.size)
  clear hz
  go_wp2_with fail
  go_ret2
  exact ⟨_, _, _, _, rfl, HNA.out⟩
end

end Go.Proofs.YtihnkijeefkefaaGreat

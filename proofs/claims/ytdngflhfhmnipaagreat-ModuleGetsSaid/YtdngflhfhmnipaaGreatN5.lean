/- ModulePuts. -/
import Derived.Test.YtdngflhfhmnipaaGreatN3
import Derived.Test.YtdngflhfhmnipaaGreatN4
import Derived.Test.YtdngflhfhmnipaaGreatM23
import Derived.Test.YtdngflhfhmnipaaGreatNu
set_option linter.unusedSimpArgs false
set_option linter.unusedVariables false
set_option linter.unusedSectionVars false
set_option linter.unnecessarySimpa false
namespace Go.Proofs.YtdngflhfhmnipaaGreat
open Go.RowKit

attribute [local go_sem] Program.isFuncB Program.isSliceB

variable {w w' w'' w0 : World}

/-- bytes that are written over, their spare room too: only their own block turns -/
theorem overbytes_ok (w : World) (B : Nat) (v : Value) (n : Nat) (xs : List Value) (ho : w.ownsRow B 5 1 v n xs) (hn : Nums .u8 w v) :
    Calls Tryz.prog 15 #[v] w fun e w' => e = .returned (.tuple #[]) ∧ Fr (fun k => v.ownBlock = some k) w w' := by
  rcases ho.2 with ⟨rfl, rfl⟩ | ⟨g, cap, cur, rfl, hb, hg, h1, h2, h3, h4⟩
  · clear ho hn
    go_enter Tryz.func15, Tryz.ntmps15
    go_wp2_with fail
    go_loopw [3] (fun x wr => x = .int .i64 0 ∧ wr = w) (fun _ _ => 0)
    case atStart => exact ⟨rfl, rfl⟩
    case round =>
      obtain ⟨rfl, rfl⟩ := hrel
      go_wp2_with fail
      exact ⟨rfl, .tuple #[], by simp [results], rfl, Fr.refl _ _⟩
  · have hc : cap < 9223372036854775808 := by have := h2; unfold maxLen at this; omega
    have hn' : n ≤ cap := h1
    have hz : cur.size = cap := by omega
    have HG0 : Hid (∃ cur : Array Value, w.heap[g]? = some (.cells cur 5 (0, 0)) ∧ cur.size = cap ∧ ∀ x ∈ cur.toList, ∃ q : Int, x = .int .u8 q) := Lib.hid ⟨cur, hg, hz, hn g cur _ _ rfl hg⟩
    clear ho hb hg h1 h2 h3 h4 hz hn
    go_enter Tryz.func15, Tryz.ntmps15
    go_wp2_with fail
    go_loopw [3] (fun x wr => ∃ k : Nat, k ≤ cap ∧ x = .int .i64 k ∧ Hid (∃ cur : Array Value, wr.heap[g]? = some (.cells cur 5 (0, 0)) ∧ cur.size = cap ∧ ∀ x ∈ cur.toList, ∃ q : Int, x = .int .u8 q) ∧ Hid (Fr (only [g]) w wr)) (fun x _ => (cap - intOf x).toNat)
    case atStart => exact ⟨0, by omega, rfl, HG0, Lib.hid (Fr.refl _ _)⟩
    case round =>
      obtain ⟨k, hk, rfl, hg, hf⟩ := hrel
      by_cases hkc : k < cap
      · have hkc' : (k : Int) < cap := by omega
        obtain ⟨cur, h1, h2, h3⟩ := hg.out
        obtain ⟨q, hq⟩ := h3 (cur[k]'(by omega)) (by simp)
        have c1 : wr.cell? ⟨g, 0 + k, none⟩ = some (.int .u8 q) := by rw [← hq]; exact cell_of_heap h1 (by rw [Nat.zero_add]; simp)
        rw [Nat.zero_add] at c1
        have f1 : wr.frozen? ⟨g, k, none⟩ = false := frozen_of_heap h1
        have HN := Lib.hid (fun z : Int => (⟨_, heap_setCell (v := .int .u8 z) h1, by simpa using h2, by
          intro x hx
          rw [Array.toList_setIfInBounds] at hx
          rcases List.mem_or_eq_of_mem_set hx with hx | hx
          · exact h3 x hx
          · exact ⟨z, hx⟩⟩ : ∃ cur' : Array Value, (wr.setCell ⟨g, k, none⟩ (.int .u8 z)).heap[g]? = some (.cells cur' 5 (0, 0)) ∧ cur'.size = cap ∧ ∀ x ∈ cur'.toList, ∃ q : Int, x = .int .u8 q))
        have HF := Lib.hid (fun z : Int => hf.out.setCell ⟨g, k, none⟩ (.int .u8 z) (.inl (by simp)))
        clear h1 h2 h3 hq hg hf
        go_wp2_with fail
        go_roundw
        case rel => exact ⟨k + 1, by omega, by go_num, Lib.hid (HN.out _), Lib.hid (HF.out _)⟩
        case measure => first | (simp [intOf]; done) | (simp [intOf]; omega)
      · obtain rfl : k = cap := by omega
        go_wp2_with fail
        exact ⟨rfl, .tuple #[], by simp [results], rfl, hf.out.mono (fun i hi => by simp at hi; simp [Value.ownBlock, hi])⟩


end Go.Proofs.YtdngflhfhmnipaaGreat

namespace Go.Proofs.YtdngflhfhmnipaaGreat
open Go.RowKit

attribute [local go_sem] Program.isFuncB Program.isSliceB

variable {w w' w'' w0 : World}

theorem odd_mod {W : World} {S : Nat → Prop} {ts : List TypeId} (hts : 25 ∉ ts) (h : ∀ k, S k → ∃ cs : Array Value, w.heap[k]? = some (.cells cs 25 (0, 0))) : Odd w S ts := fun k hk => by
  obtain ⟨cs, h1⟩ := h k hk
  exact .inr ⟨cs, _, h1, hts⟩

set_option maxRecDepth 100000 in
set_option maxHeartbeats 32000000 in
theorem puts_mod (w : World) (m m' : Mx) (da fa db fb : Option Addr) (dc fc dd fd : Nat) (hm : ModIn w m da dc fa) (hr : m.Raw) (hn : ModIn w m' db dd fb) (hr' : m'.Raw) :
    Calls Tryz.prog 3 #[.agg #[.slice da m.d.length dc, .slice fa m.f.length fc], .agg #[.slice db m'.d.length dd, .slice fb m'.f.length fd]] w fun e w' => e = .returned (.bool true) ∧ Fr no w w' := by
  have r1 := (Fr.refl no w).alloc (.cells #[.slice da m.d.length dc, .slice fa m.f.length fc] 25)
  have r2 := r1.alloc (.cells #[.slice db m'.d.length dd, .slice fb m'.f.length fd] 25)
  have I1 := Lib.hid (heap_keep (heap_new w (.cells #[.slice da m.d.length dc, .slice fa m.f.length fc] 25)) (.cells #[.slice db m'.d.length dd, .slice fb m'.f.length fd] 25))
  have I2 := Lib.hid (heap_new2' w (.cells #[.slice da m.d.length dc, .slice fa m.f.length fc] 25) (.cells #[.slice db m'.d.length dd, .slice fb m'.f.length fd] 25))
  have M1 := Lib.hid (hm.fr r2)
  have M2 := Lib.hid (hn.fr r2)
  have R2 := Lib.hid r2
  have HR := Lib.hid hr
  have HR' := Lib.hid hr'
  clear r1 r2 hm hn hr hr'
  have LG := Lib.hid (longm_ok _ m da dc fa fc M1.out HR.out)
  go_enter Tryz.func3, Tryz.ntmps3
  obtain ⟨c0, c1⟩ := cells2 I1.out
  obtain ⟨d0, d1⟩ := cells2 I2.out
  go_wp2_with fail
  refine LG.out.mono ?_
  rintro e w4 ⟨q, rfl, hq, r⟩
  have I1b := Lib.hid (r.heap I1.out (by simp))
  have I2b := Lib.hid (r.heap I2.out (by simp))
  have M1b := Lib.hid (M1.out.fr r)
  have M2b := Lib.hid (M2.out.fr r)
  have R4 := Lib.hid (R2.out.trans r)
  have HQ := Lib.hid hq
  clear r I1 I2 M1 M2 R2 LG c0 c1 d0 d1 hq
  cases q
  rotate_left
  · go_wp2_with fail
    refine (awake_ok _).mono ?_
    rintro e w5 ⟨rfl, r⟩
    have R5 := Lib.hid (R4.out.trans r)
    clear r
    go_wp2_with fail
    go_ret
    exact ⟨rfl, R5.out⟩
  have SML := Lib.hid (LongM.small HR.out (HQ.out rfl))
  have LG2 := Lib.hid (longm_ok w4 m' db dd fb fd M2b.out HR'.out)
  obtain ⟨c0, c1⟩ := cells2 I1b.out
  obtain ⟨d0, d1⟩ := cells2 I2b.out
  clear HQ
  go_wp2_with fail
  refine LG2.out.mono ?_
  rintro e w5 ⟨q, rfl, hq, r⟩
  have I1c := Lib.hid (r.heap I1b.out (by simp))
  have I2c := Lib.hid (r.heap I2b.out (by simp))
  have M1c := Lib.hid (M1b.out.fr r)
  have M2c := Lib.hid (M2b.out.fr r)
  have R5 := Lib.hid (R4.out.trans r)
  have HQ := Lib.hid hq
  clear r I1b I2b M1b M2b R4 LG2 c0 c1 d0 d1 hq
  cases q
  rotate_left
  · go_wp2_with fail
    refine (awake_ok _).mono ?_
    rintro e w5 ⟨rfl, r⟩
    have R6 := Lib.hid (R5.out.trans r)
    clear r
    go_wp2_with fail
    go_ret
    exact ⟨rfl, R6.out⟩
  have SML' := Lib.hid (LongM.small HR'.out (HQ.out rfl))
  clear HQ
  go_upto_region 3 with fail
  refine Inv.free _ [19, 20, 21, 22, 5, 6] [⟨4, 1, 6, 5, 20, 25, 2⟩, ⟨5, 3, 7, 6, 22, 25, 2⟩] (fun i => [19, 20, 21, 22].getD i 0) (fun i v wq => match i with | 0 => v = .agg #[.slice da m.d.length dc, .slice fa m.f.length fc] | 1 => ∃ a c a' c', v = .agg #[.slice a m.d.length c, .slice a' m.f.length c'] ∧ ModOwn wq w5.heap.size m a c a' c' | 2 => v = .agg #[.slice db m'.d.length dd, .slice fb m'.f.length fd] | 3 => ∃ a c a' c', v = .agg #[.slice a m'.d.length c, .slice a' m'.f.length c'] ∧ ModOwn wq w5.heap.size m' a c a' c' | _ => True) (by kernel_rfl) (by kernel_rfl) (by decide) (by kernel_rfl) 73 rfl (by decide) ?_ ?_ ?_ ?_ ?_ ?_ ?_ ?_
  · intro i v wa wb S _ h r hS
    have ho : Odd wa S [5, 44, 47, 3] := odd_mod (W := wa) (by decide) (fun k hk => by
      obtain ⟨-, p, hp, cs, hc⟩ := hS k hk
      simp only [List.mem_cons, List.not_mem_nil, or_false] at hp
      rcases hp with rfl | rfl <;> exact ⟨cs, hc⟩)
    match i, h with
    | 0, h => exact h
    | 1, h => obtain ⟨a, c, a', c', h1, h2⟩ := h; exact ⟨a, c, a', c', h1, h2.odd r ho⟩
    | 2, h => exact h
    | 3, h => obtain ⟨a, c, a', c', h1, h2⟩ := h; exact ⟨a, c, a', c', h1, h2.odd r ho⟩
    | _ + 4, _ => trivial
  · intro p hp
    simp only [List.mem_cons, List.not_mem_nil, or_false] at hp
    rcases hp with rfl | rfl
    · exact ⟨_, rfl, rfl, rfl⟩
    · exact ⟨_, rfl, rfl, rfl⟩
  · intro p hp
    simp only [List.mem_cons, List.not_mem_nil, or_false] at hp
    rcases hp with rfl | rfl
    · exact ⟨_, rfl, rfl, rfl, ⟨⟨4, .data⟩, by simp, rfl, rfl⟩, ⟨⟨1, .data⟩, by simp, rfl, rfl⟩⟩
    · exact ⟨_, rfl, rfl, rfl, ⟨⟨5, .data⟩, by simp, rfl, rfl⟩, ⟨⟨3, .data⟩, by simp, rfl, rfl⟩⟩
  · intro p hp
    simp only [List.mem_cons, List.not_mem_nil, or_false] at hp
    rcases hp with rfl | rfl
    · exact ⟨.agg #[.slice none 0 0, .slice none 0 0] , fun w => (by kernel_rfl), rfl⟩
    · exact ⟨.agg #[.slice none 0 0, .slice none 0 0], fun w => (by kernel_rfl), rfl⟩
  · intro p hp
    simp only [List.mem_cons, List.not_mem_nil, or_false] at hp
    rcases hp with rfl | rfl
    · kernel_rfl
    · kernel_rfl
  · intro p hp
    simp only [List.mem_cons, List.not_mem_nil, or_false] at hp
    rcases hp with rfl | rfl
    · intro u w1 hu; obtain ⟨a, c, a', c', h1, -⟩ := hu; exact ⟨_, h1, rfl, by simp [Value.oneCell']⟩
    · intro u w1 hu; obtain ⟨a, c, a', c', h1, -⟩ := hu; exact ⟨_, h1, rfl, by simp [Value.oneCell']⟩
  · skip
    intro i o ho hs x dn wq rq hdep hV hnd hun hcl
    have hlt := (List.getElem?_eq_some_iff.1 ho).1
    simp only [List.length_cons, List.length_nil] at hlt
    obtain rfl | rfl | rfl | rfl | rfl | rfl | rfl | rfl : i = 0 ∨ i = 1 ∨ i = 2 ∨ i = 3 ∨ i = 4 ∨ i = 5 ∨ i = 6 ∨ i = 7 := by omega
    all_goals cases ho
    all_goals try (exact absurd hs (by decide))
    all_goals (unfold Inv.over; simp only [List.foldl_cons, List.foldl_nil, List.setIfInBounds_toArray, List.set_cons_zero, List.set_cons_succ])
    · skip
      obtain ⟨c0, c1⟩ := cells2 (rq.heap I1c.out (by simp))
      refine Inv.Step.value (v := .agg #[.slice da m.d.length dc, .slice fa m.f.length fc]) ?_ ⟨_, rfl, rfl, Fr.refl _ _⟩
      go_simp
    · skip
      have h0 : x 19 = .agg #[.slice da m.d.length dc, .slice fa m.f.length fc] := hV 0 (hdep ⟨0, .data⟩ (by simp) rfl) rfl
      refine Inv.Step.call1 _ _ _ rfl (fun _ _ => rfl) _ h0 ?_
      refine (copymod_ok wq m da dc fa fc (M1c.out.fr rq) SML.out).mono ?_
      rintro e w2 ⟨a, c, a', c', rfl, hv, r⟩
      exact ⟨_, rfl, ⟨a, c, a', c', rfl, hv.base rq.size⟩, r⟩
    · skip
      obtain ⟨c0, c1⟩ := cells2 (rq.heap I2c.out (by simp))
      refine Inv.Step.value (v := .agg #[.slice db m'.d.length dd, .slice fb m'.f.length fd]) ?_ ⟨_, rfl, rfl, Fr.refl _ _⟩
      go_simp
    · skip
      have h0 : x 21 = .agg #[.slice db m'.d.length dd, .slice fb m'.f.length fd] := hV 2 (hdep ⟨2, .data⟩ (by simp) rfl) rfl
      refine Inv.Step.call1 _ _ _ rfl (fun _ _ => rfl) _ h0 ?_
      refine (copymod_ok wq m' db dd fb fd (M2c.out.fr rq) SML'.out).mono ?_
      rintro e w2 ⟨a, c, a', c', rfl, hv, r⟩
      exact ⟨_, rfl, ⟨a, c, a', c', rfl, hv.base rq.size⟩, r⟩
  intro x wq rq hV hvar hne
  unfold Inv.over
  simp only [List.foldl_cons, List.foldl_nil, List.setIfInBounds_toArray, List.set_cons_zero, List.set_cons_succ]
  obtain ⟨b5, cs5, y5, -, hb5, v5⟩ := hvar ⟨4, 1, 6, 5, 20, 25, 2⟩ (by simp)
  obtain ⟨b6, cs6, y6, -, hb6, v6⟩ := hvar ⟨5, 3, 7, 6, 22, 25, 2⟩ (by simp)
  obtain ⟨ka, kc, ka', kc', g1, O1⟩ := hV 1 (by decide) rfl
  obtain ⟨la, lc, la', lc', g3, O2⟩ := hV 3 (by decide) rfl
  have h1 : x 20 = .agg #[.slice ka m.d.length kc, .slice ka' m.f.length kc'] := g1
  have h3 : x 22 = .agg #[.slice la m'.d.length lc, .slice la' m'.f.length lc'] := g3
  dsimp only at y5 y6 v5 v6 hb5 hb6
  rw [h1] at v5
  rw [h3] at v6
  cases v5
  cases v6
  rw [y5, y6]
  have B5 := Lib.hid hb5
  have B6 := Lib.hid hb6
  have N1 := Lib.hid O1.modIn
  have N2 := Lib.hid O2.modIn
  have I1d := Lib.hid (rq.heap I1c.out (by simp))
  have I2d := Lib.hid (rq.heap I2c.out (by simp))
  have M1d := Lib.hid (M1c.out.fr rq)
  have M2d := Lib.hid (M2c.out.fr rq)
  have R6 := Lib.hid (R5.out.trans rq)
  have PM := Lib.hid (putm_ok wq m ka kc ka' kc' N1.out SML.out)
  clear y5 y6 hb5 hb6 h1 h3 g1 g3 hV hvar hne rq O1 O2 I1c I2c M1c M2c R5
  generalize x 19 = y19
  generalize x 20 = y20
  generalize x 21 = y21
  generalize x 22 = y22
  clear x
  obtain ⟨e0, e1⟩ := cells2 B5.out
  go_wp2_with fail
  refine PM.out.mono ?_
  rintro e w7 ⟨v, rfl, hv, hnu, r7⟩
  have PR := Lib.hid (refput_mod w7 m da dc fa fc (M1d.out.fr r7) SML.out)
  obtain ⟨va, vc, rfl⟩ := owns_shape hv
  have HV := Lib.hid hv
  have HNU := Lib.hid hnu
  have R7 := Lib.hid r7
  have I1e := Lib.hid (r7.heap I1d.out (by simp))
  have PL : Hid (∀ b ∈ putM m, b < 256) := Lib.hid (by
    intro b hb
    unfold putM at hb
    split at hb
    · exact modB_lt m HR.out.lt b hb
    · cases hb)
  have CK := Lib.hid (fun w h => check_mod w m ka kc ka' kc' h SML.out)
  have CR := Lib.hid (fun w h => refcheck_mod w m da dc fa fc h SML.out)
  clear hv hnu r7 PM e0 e1
  generalize modCk m = ck at *
  generalize putM m = pm at *
  obtain ⟨c0, c1⟩ := cells2 I1e.out
  go_wp2_with fail
  refine PR.out.mono ?_
  rintro e w8 ⟨u, rfl, hu, r8⟩
  obtain ⟨ua, uc, rfl⟩ := hu.shape
  have R8 := Lib.hid (R7.out.trans r8)
  have HV8 := Lib.hid (owns_fr HV.out r8 (by simp))
  have HN8 := Lib.hid (HNU.out.fr r8 (fun g hg => (HV.out.lt g hg).2))
  have SB := samebytes_ok w8.drew _ _ pm pm ((owns_reads HV8.out).fr (Fr.refl no w8).drew (by simp)) (hu.fr (Fr.refl no w8).drew (by simp)) PL.out PL.out
  rw [decide_eq_true rfl] at SB
  have SBH := Lib.hid SB
  clear r8 hu SB PR I1e R7 HV HNU c0 c1 PL
  have rd := R8.out.trans (Fr.refl no w8).drew
  have B5d := Lib.hid (rd.heap B5.out (by simp))
  have B6d := Lib.hid (rd.heap B6.out (by simp))
  have I1f := Lib.hid (rd.heap I1d.out (by simp))
  have I2f := Lib.hid (rd.heap I2d.out (by simp))
  have RL0 := Lib.hid (Fr.refl no w8).drew
  have SMH : Hid (∃ sm : Bool, sm = decide (m = m')) := Lib.hid ⟨_, rfl⟩
  have SM1 := Lib.hid (fun w h h' => samemod_ok w m m' ka ka' la la' kc kc' lc lc' h h' SML.out SML'.out)
  have SM2 := Lib.hid (fun w h h' => refsame_mod w m m' da fa db fb dc fc dd fd h h' SML.out SML'.out)
  generalize decide (m = m') = sm at *
  clear rd SMH
  go_upto_region 6 with fail
  refine Lex.region [2, 10, 12, 18, 21] [25] (by kernel_rfl) (by kernel_rfl) ?_
  refine Lex.opens (fun w' => w'.heap[b5]? = some (.cells #[.slice ka m.d.length kc, .slice ka' m.f.length kc'] 25 (0, 0)) ∧ w'.heap[b6]? = some (.cells #[.slice la m'.d.length lc, .slice la' m'.f.length lc'] 25 (0, 0)) ∧ w'.heap[w.heap.size]? = some (.cells #[.slice da m.d.length dc, .slice fa m.f.length fc] 25 (0, 0)) ∧ w'.heap[w.heap.size + 1]? = some (.cells #[.slice db m'.d.length dd, .slice fb m'.f.length fd] 25 (0, 0))) (⟨B5d.out, B6d.out, I1f.out, I2f.out⟩) ?_
  repeat (first
    | (refine Lex.skips (by rfl) ?_; (try simp only [Act.put, List.setIfInBounds_toArray, List.set_cons_zero, List.set_cons_succ]))
    | (refine Lex.row (by rfl) (by rfl) _ _ rfl _ rfl _ _ _ _ ((fun w' h => h.1)) Tryz.underlying25 rfl (by rw [Tryz.infoMod2]; rfl) ?_; (try simp only [Act.put, List.setIfInBounds_toArray, List.set_cons_zero, List.set_cons_succ]))
    | (refine Lex.row (by rfl) (by rfl) _ _ rfl _ rfl _ _ _ _ ((fun w' h => h.2.1)) Tryz.underlying25 rfl (by rw [Tryz.infoMod2]; rfl) ?_; (try simp only [Act.put, List.setIfInBounds_toArray, List.set_cons_zero, List.set_cons_succ]))
    | (refine Lex.row (by rfl) (by rfl) _ _ rfl _ rfl _ _ _ _ ((fun w' h => h.2.2.1)) Tryz.underlying25 rfl (by rw [Tryz.infoMod2]; rfl) ?_; (try simp only [Act.put, List.setIfInBounds_toArray, List.set_cons_zero, List.set_cons_succ]))
    | (refine Lex.row (by rfl) (by rfl) _ _ rfl _ rfl _ _ _ _ ((fun w' h => h.2.2.2)) Tryz.underlying25 rfl (by rw [Tryz.infoMod2]; rfl) ?_; (try simp only [Act.put, List.setIfInBounds_toArray, List.set_cons_zero, List.set_cons_succ]))
    | (refine Lex.quiet (v := ?_) (by rfl) (by rfl) ?_ ?_; rotate_left; (focus (intro w' hS'; go_simp; try rfl)); (try simp only [Act.put, List.setIfInBounds_toArray, List.set_cons_zero, List.set_cons_succ])))
  refine Lex.loud (by rfl) (by rfl) ?_
  intro K' hK'
  go_simp
  refine SBH.out.mono ?_
  rintro e w9 ⟨rfl, rfl⟩
  refine hK' _ _ (⟨B5d.out, B6d.out, I1f.out, I2f.out⟩) ?_
  clear hK'
  try simp only [Act.put, List.setIfInBounds_toArray, List.set_cons_zero, List.set_cons_succ]
  repeat (first
    | (refine Lex.skips (by rfl) ?_; (try simp only [Act.put, List.setIfInBounds_toArray, List.set_cons_zero, List.set_cons_succ]))
    | (refine Lex.row (by rfl) (by rfl) _ _ rfl _ rfl _ _ _ _ ((fun w' h => h.1)) Tryz.underlying25 rfl (by rw [Tryz.infoMod2]; rfl) ?_; (try simp only [Act.put, List.setIfInBounds_toArray, List.set_cons_zero, List.set_cons_succ]))
    | (refine Lex.row (by rfl) (by rfl) _ _ rfl _ rfl _ _ _ _ ((fun w' h => h.2.1)) Tryz.underlying25 rfl (by rw [Tryz.infoMod2]; rfl) ?_; (try simp only [Act.put, List.setIfInBounds_toArray, List.set_cons_zero, List.set_cons_succ]))
    | (refine Lex.row (by rfl) (by rfl) _ _ rfl _ rfl _ _ _ _ ((fun w' h => h.2.2.1)) Tryz.underlying25 rfl (by rw [Tryz.infoMod2]; rfl) ?_; (try simp only [Act.put, List.setIfInBounds_toArray, List.set_cons_zero, List.set_cons_succ]))
    | (refine Lex.row (by rfl) (by rfl) _ _ rfl _ rfl _ _ _ _ ((fun w' h => h.2.2.2)) Tryz.underlying25 rfl (by rw [Tryz.infoMod2]; rfl) ?_; (try simp only [Act.put, List.setIfInBounds_toArray, List.set_cons_zero, List.set_cons_succ]))
    | (refine Lex.quiet (v := ?_) (by rfl) (by rfl) ?_ ?_; rotate_left; (focus (intro w' hS'; go_simp; try rfl)); (try simp only [Act.put, List.setIfInBounds_toArray, List.set_cons_zero, List.set_cons_succ])))
  refine Lex.loud (by rfl) (by rfl) ?_
  intro K' hK'
  go_simp
  refine (CK.out _ (N1.out.fr (R8.out.trans RL0.out))).mono ?_
  rintro e y1 ⟨rfl, r⟩
  have RL1 := Lib.hid (RL0.out.trans r)
  clear r
  refine hK' _ _ (⟨(R8.out.trans RL1.out).heap B5.out (by simp), (R8.out.trans RL1.out).heap B6.out (by simp), (R8.out.trans RL1.out).heap I1d.out (by simp), (R8.out.trans RL1.out).heap I2d.out (by simp)⟩) ?_
  clear hK'
  try simp only [Act.put, List.setIfInBounds_toArray, List.set_cons_zero, List.set_cons_succ]
  repeat (first
    | (refine Lex.skips (by rfl) ?_; (try simp only [Act.put, List.setIfInBounds_toArray, List.set_cons_zero, List.set_cons_succ]))
    | (refine Lex.row (by rfl) (by rfl) _ _ rfl _ rfl _ _ _ _ ((fun w' h => h.1)) Tryz.underlying25 rfl (by rw [Tryz.infoMod2]; rfl) ?_; (try simp only [Act.put, List.setIfInBounds_toArray, List.set_cons_zero, List.set_cons_succ]))
    | (refine Lex.row (by rfl) (by rfl) _ _ rfl _ rfl _ _ _ _ ((fun w' h => h.2.1)) Tryz.underlying25 rfl (by rw [Tryz.infoMod2]; rfl) ?_; (try simp only [Act.put, List.setIfInBounds_toArray, List.set_cons_zero, List.set_cons_succ]))
    | (refine Lex.row (by rfl) (by rfl) _ _ rfl _ rfl _ _ _ _ ((fun w' h => h.2.2.1)) Tryz.underlying25 rfl (by rw [Tryz.infoMod2]; rfl) ?_; (try simp only [Act.put, List.setIfInBounds_toArray, List.set_cons_zero, List.set_cons_succ]))
    | (refine Lex.row (by rfl) (by rfl) _ _ rfl _ rfl _ _ _ _ ((fun w' h => h.2.2.2)) Tryz.underlying25 rfl (by rw [Tryz.infoMod2]; rfl) ?_; (try simp only [Act.put, List.setIfInBounds_toArray, List.set_cons_zero, List.set_cons_succ]))
    | (refine Lex.quiet (v := ?_) (by rfl) (by rfl) ?_ ?_; rotate_left; (focus (intro w' hS'; go_simp; try rfl)); (try simp only [Act.put, List.setIfInBounds_toArray, List.set_cons_zero, List.set_cons_succ])))
  refine Lex.loud (by rfl) (by rfl) ?_
  intro K' hK'
  go_simp
  refine (CR.out _ (M1d.out.fr (R8.out.trans RL1.out))).mono ?_
  rintro e y2 ⟨rfl, r⟩
  have RL2 := Lib.hid (RL1.out.trans r)
  clear r
  refine hK' _ _ (⟨(R8.out.trans RL2.out).heap B5.out (by simp), (R8.out.trans RL2.out).heap B6.out (by simp), (R8.out.trans RL2.out).heap I1d.out (by simp), (R8.out.trans RL2.out).heap I2d.out (by simp)⟩) ?_
  clear hK'
  try simp only [Act.put, List.setIfInBounds_toArray, List.set_cons_zero, List.set_cons_succ]
  repeat (first
    | (refine Lex.skips (by rfl) ?_; (try simp only [Act.put, List.setIfInBounds_toArray, List.set_cons_zero, List.set_cons_succ]))
    | (refine Lex.row (by rfl) (by rfl) _ _ rfl _ rfl _ _ _ _ ((fun w' h => h.1)) Tryz.underlying25 rfl (by rw [Tryz.infoMod2]; rfl) ?_; (try simp only [Act.put, List.setIfInBounds_toArray, List.set_cons_zero, List.set_cons_succ]))
    | (refine Lex.row (by rfl) (by rfl) _ _ rfl _ rfl _ _ _ _ ((fun w' h => h.2.1)) Tryz.underlying25 rfl (by rw [Tryz.infoMod2]; rfl) ?_; (try simp only [Act.put, List.setIfInBounds_toArray, List.set_cons_zero, List.set_cons_succ]))
    | (refine Lex.row (by rfl) (by rfl) _ _ rfl _ rfl _ _ _ _ ((fun w' h => h.2.2.1)) Tryz.underlying25 rfl (by rw [Tryz.infoMod2]; rfl) ?_; (try simp only [Act.put, List.setIfInBounds_toArray, List.set_cons_zero, List.set_cons_succ]))
    | (refine Lex.row (by rfl) (by rfl) _ _ rfl _ rfl _ _ _ _ ((fun w' h => h.2.2.2)) Tryz.underlying25 rfl (by rw [Tryz.infoMod2]; rfl) ?_; (try simp only [Act.put, List.setIfInBounds_toArray, List.set_cons_zero, List.set_cons_succ]))
    | (refine Lex.quiet (v := ?_) (by rfl) (by rfl) ?_ ?_; rotate_left; (focus (intro w' hS'; go_simp; try rfl)); (try simp only [Act.put, List.setIfInBounds_toArray, List.set_cons_zero, List.set_cons_succ])))
  refine Lex.loud (by rfl) (by rfl) ?_
  intro K' hK'
  go_simp
  refine (SM1.out _ (N1.out.fr (R8.out.trans RL2.out)) (N2.out.fr (R8.out.trans RL2.out))).mono ?_
  rintro e y3 ⟨rfl, r⟩
  have RL3 := Lib.hid (RL2.out.trans r)
  clear r
  refine hK' _ _ (⟨(R8.out.trans RL3.out).heap B5.out (by simp), (R8.out.trans RL3.out).heap B6.out (by simp), (R8.out.trans RL3.out).heap I1d.out (by simp), (R8.out.trans RL3.out).heap I2d.out (by simp)⟩) ?_
  clear hK'
  try simp only [Act.put, List.setIfInBounds_toArray, List.set_cons_zero, List.set_cons_succ]
  repeat (first
    | (refine Lex.skips (by rfl) ?_; (try simp only [Act.put, List.setIfInBounds_toArray, List.set_cons_zero, List.set_cons_succ]))
    | (refine Lex.row (by rfl) (by rfl) _ _ rfl _ rfl _ _ _ _ ((fun w' h => h.1)) Tryz.underlying25 rfl (by rw [Tryz.infoMod2]; rfl) ?_; (try simp only [Act.put, List.setIfInBounds_toArray, List.set_cons_zero, List.set_cons_succ]))
    | (refine Lex.row (by rfl) (by rfl) _ _ rfl _ rfl _ _ _ _ ((fun w' h => h.2.1)) Tryz.underlying25 rfl (by rw [Tryz.infoMod2]; rfl) ?_; (try simp only [Act.put, List.setIfInBounds_toArray, List.set_cons_zero, List.set_cons_succ]))
    | (refine Lex.row (by rfl) (by rfl) _ _ rfl _ rfl _ _ _ _ ((fun w' h => h.2.2.1)) Tryz.underlying25 rfl (by rw [Tryz.infoMod2]; rfl) ?_; (try simp only [Act.put, List.setIfInBounds_toArray, List.set_cons_zero, List.set_cons_succ]))
    | (refine Lex.row (by rfl) (by rfl) _ _ rfl _ rfl _ _ _ _ ((fun w' h => h.2.2.2)) Tryz.underlying25 rfl (by rw [Tryz.infoMod2]; rfl) ?_; (try simp only [Act.put, List.setIfInBounds_toArray, List.set_cons_zero, List.set_cons_succ]))
    | (refine Lex.quiet (v := ?_) (by rfl) (by rfl) ?_ ?_; rotate_left; (focus (intro w' hS'; go_simp; try rfl)); (try simp only [Act.put, List.setIfInBounds_toArray, List.set_cons_zero, List.set_cons_succ])))
  refine Lex.loud (by rfl) (by rfl) ?_
  intro K' hK'
  go_simp
  refine (SM2.out _ (M1d.out.fr (R8.out.trans RL3.out)) (M2d.out.fr (R8.out.trans RL3.out))).mono ?_
  rintro e y4 ⟨rfl, r⟩
  have RL4 := Lib.hid (RL3.out.trans r)
  clear r
  refine hK' _ _ (⟨(R8.out.trans RL4.out).heap B5.out (by simp), (R8.out.trans RL4.out).heap B6.out (by simp), (R8.out.trans RL4.out).heap I1d.out (by simp), (R8.out.trans RL4.out).heap I2d.out (by simp)⟩) ?_
  clear hK'
  try simp only [Act.put, List.setIfInBounds_toArray, List.set_cons_zero, List.set_cons_succ]
  repeat (first
    | (refine Lex.skips (by rfl) ?_; (try simp only [Act.put, List.setIfInBounds_toArray, List.set_cons_zero, List.set_cons_succ]))
    | (refine Lex.row (by rfl) (by rfl) _ _ rfl _ rfl _ _ _ _ ((fun w' h => h.1)) Tryz.underlying25 rfl (by rw [Tryz.infoMod2]; rfl) ?_; (try simp only [Act.put, List.setIfInBounds_toArray, List.set_cons_zero, List.set_cons_succ]))
    | (refine Lex.row (by rfl) (by rfl) _ _ rfl _ rfl _ _ _ _ ((fun w' h => h.2.1)) Tryz.underlying25 rfl (by rw [Tryz.infoMod2]; rfl) ?_; (try simp only [Act.put, List.setIfInBounds_toArray, List.set_cons_zero, List.set_cons_succ]))
    | (refine Lex.row (by rfl) (by rfl) _ _ rfl _ rfl _ _ _ _ ((fun w' h => h.2.2.1)) Tryz.underlying25 rfl (by rw [Tryz.infoMod2]; rfl) ?_; (try simp only [Act.put, List.setIfInBounds_toArray, List.set_cons_zero, List.set_cons_succ]))
    | (refine Lex.row (by rfl) (by rfl) _ _ rfl _ rfl _ _ _ _ ((fun w' h => h.2.2.2)) Tryz.underlying25 rfl (by rw [Tryz.infoMod2]; rfl) ?_; (try simp only [Act.put, List.setIfInBounds_toArray, List.set_cons_zero, List.set_cons_succ]))
    | (refine Lex.quiet (v := ?_) (by rfl) (by rfl) ?_ ?_; rotate_left; (focus (intro w' hS'; go_simp; try rfl)); (try simp only [Act.put, List.setIfInBounds_toArray, List.set_cons_zero, List.set_cons_succ])))
  refine Lex.done ?_
  refine Lex.ends ?_
  have OB := Lib.hid (overbytes_ok y4 wq.heap.size _ _ _ (owns_fr HV8.out RL4.out (by simp)) (HN8.out.fr RL4.out (fun g hg => (HV8.out.lt g hg).2)))
  clear SBH CK CR SM1 SM2 RL0 RL1 RL2 RL3 B5d B6d I1f I2f
  go_wp2_with fail
  refine OB.out.mono ?_
  rintro e z1 ⟨rfl, r⟩
  have RZ := Lib.hid ((R8.out.trans RL4.out).trans' r (fun k hk _ => (HV8.out.lt k hk).1))
  clear r OB HV8 HN8 RL4
  have K1 := kitsame_ok z1 m m ka ka' da fa kc kc' dc fc (N1.out.fr RZ.out) (M1d.out.fr RZ.out) SML.out SML.out
  rw [decide_eq_true rfl] at K1
  have K1H := Lib.hid K1
  clear K1
  have X1 := RZ.out.heap B5.out (by simp)
  have X2 := RZ.out.heap I1d.out (by simp)
  obtain ⟨a0, a1⟩ := cells2 X1
  obtain ⟨c0, c1⟩ := cells2 X2
  go_wp2_with fail
  refine K1H.out.mono ?_
  rintro e z2 ⟨rfl, r⟩
  have RZ2 := Lib.hid (RZ.out.trans r)
  clear r K1H a0 a1 c0 c1 X1 X2
  have K1 := kitsame_ok z2 m' m' la la' db fb lc lc' dd fd (N2.out.fr RZ2.out) (M2d.out.fr RZ2.out) SML'.out SML'.out
  rw [decide_eq_true rfl] at K1
  have K1H := Lib.hid K1
  clear K1
  have X1 := RZ2.out.heap B6.out (by simp)
  have X2 := RZ2.out.heap I2d.out (by simp)
  obtain ⟨a0, a1⟩ := cells2 X1
  obtain ⟨c0, c1⟩ := cells2 X2
  go_wp2_with fail
  refine K1H.out.mono ?_
  rintro e z3 ⟨rfl, r⟩
  have RZ3 := Lib.hid (RZ2.out.trans r)
  clear r K1H a0 a1 c0 c1 X1 X2
  go_wp2_with fail
  refine (awake_ok _).mono ?_
  rintro e z4 ⟨rfl, r⟩
  have RE := Lib.hid (R6.out.trans (RZ3.out.trans r))
  clear r
  go_wp2_with fail
  go_ret
  exact ⟨rfl, RE.out⟩

theorem puts_mod_rd (w : World) (s0 s1 : Array Value) {n n' : Nat} {d d' : Dt} (h : Rd Tryz.prog w n 25 s0.toList d) (h' : Rd Tryz.prog w n' 25 s1.toList d') :
    Calls Tryz.prog 3 #[.agg s0, .agg s1] w fun e w' => e = .returned (.bool true) ∧ Fr no w w' := by
  obtain ⟨m, da, dc, fa, fc, hs, hm, hr⟩ := mod_of h
  obtain ⟨m', db, dd, fb, fd, hs', hm', hr'⟩ := mod_of h'
  obtain rfl : s0 = #[.slice da m.d.length dc, .slice fa m.f.length fc] := Array.ext' hs
  obtain rfl : s1 = #[.slice db m'.d.length dd, .slice fb m'.f.length fd] := Array.ext' hs'
  exact puts_mod w m m' da fa db fb dc fc dd fd hm hr hm' hr'

end Go.Proofs.YtdngflhfhmnipaaGreat

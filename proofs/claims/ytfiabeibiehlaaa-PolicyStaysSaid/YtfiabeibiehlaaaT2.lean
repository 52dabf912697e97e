import Derived.Test.YtfiabeibiehlaaaT1
namespace Go.Proofs.Ytfiabeibiehlaaa
open Go.RowKit

attribute [local go_sem] Program.isFuncB Program.isSliceB

set_option maxRecDepth 100000 in
set_option maxHeartbeats 4000000 in
theorem stays_any (w : World) (sv : Value) (zs : List Bool) (hz : Reads w sv 1 zs.length (zs.map .bool)) (t : Int) (lv : Value) (l : List Int) (hl : Reads w lv 1 l.length (l.map (.int .i64))) :
    Calls Try.prog 5 #[sv, .int .i64 t, lv] w fun e w' => e = .returned (.bool true) ∧ Fr no w w' := by
  obtain ⟨sa, sc, rfl⟩ := hz.shape
  obtain ⟨la, lc, rfl⟩ := hl.shape
  by_cases hg : 100 < zs.length ∨ 200 < l.length
  · by_cases h1 : 100 < zs.length
    · clear hg
      go_enter Try.func5, Try.ntmps5
      go_wp2_with fail
      refine (known_any _).mono ?_
      rintro e w2 ⟨rfl, r2⟩
      go_wp2_with fail
      go_ret
      exact ⟨rfl, r2⟩
    · have h2 : 200 < l.length := by omega
      clear hg
      go_enter Try.func5, Try.ntmps5
      go_wp2_with fail
      refine (known_any _).mono ?_
      rintro e w2 ⟨rfl, r2⟩
      go_wp2_with fail
      go_ret
      exact ⟨rfl, r2⟩
  · have g1 : zs.length ≤ 100 := by omega
    have g2 : l.length ≤ 200 := by omega
    clear hg
    have HL := Lib.hid hl
    have HZ := Lib.hid hz
    clear hl hz
    go_enter Try.func5, Try.ntmps5
    go_wp2_with fail
    refine (known_any _).mono ?_
    rintro e w0 ⟨rfl, r0⟩
    go_wp2_with fail
    refine (pick_any t 21 (by omega) (by omega) _).mono ?_
    rintro e w' ⟨rfl, rfl⟩
    have ht := (pk_lt t 21 (by omega)).1
    generalize pk t 21 = tn at ht ⊢
    go_wp2_with fail
    refine (new_yes _ _ [] (.inl ⟨rfl, rfl, rfl⟩) (by simp) tn (by omega)).mono ?_
    rintro e w1 ⟨b, ba, bp, pv, rfl, h1, r1, k1, k2, k3, k4⟩
    go_wp2_with fail
    refine (new_yes _ _ _ (HZ.out.fr (r0.trans r1) (by simp)) (by omega) tn (by omega)).mono ?_
    rintro e w2 ⟨c, ca, cp, qv, rfl, h2, r2, k5, k6, k7, k8⟩
    have q0 := r0.size
    have q1 := r1.size
    have q4 : b < w1.heap.size ∧ ba < w1.heap.size ∧ bp < w1.heap.size := by
      obtain ⟨n, h, _⟩ := h1
      exact ⟨(Array.getElem?_eq_some_iff.1 h.blk.choose_spec).1, (Array.getElem?_eq_some_iff.1 h.at_).1, (Array.getElem?_eq_some_iff.1 h.self).1⟩
    have h3 : Two w w2 zs tn [] ⟨b, ba, bp, pv, c, ca, cp, qv⟩ := by
      refine ⟨h1.fr r2 (by simp) (by simp) (by simp) (by simp), h2, (r0.trans r1).trans r2, ?_, ?_, ?_, ?_, ?_⟩
      · dsimp only; omega
      · dsimp only; omega
      · dsimp only; omega
      · dsimp only; intro k hk; have := k8 k hk; omega
      · dsimp only; intro k hk; have := k4 k hk; omega
    have hbd : b < w2.heap.size ∧ ba < w2.heap.size ∧ bp < w2.heap.size ∧ c < w2.heap.size ∧ ca < w2.heap.size ∧ cp < w2.heap.size ∧ (∀ j, pv.ownBlock = some j → j < w2.heap.size) ∧ (∀ j, qv.ownBlock = some j → j < w2.heap.size) := by
      have q2 := r2.size
      obtain ⟨n, h, _⟩ := h2
      refine ⟨by omega, by omega, by omega, (Array.getElem?_eq_some_iff.1 h.blk.choose_spec).1, (Array.getElem?_eq_some_iff.1 h.at_).1, (Array.getElem?_eq_some_iff.1 h.self).1, ?_, ?_⟩
      · intro j hj; have := k4 j hj; omega
      · intro j hj; exact (k8 j hj).2
    have hap : ∀ k, k = w2.heap.size → w.heap.size ≤ k ∧ k ≠ b ∧ k ≠ ba ∧ k ≠ bp ∧ k ≠ c ∧ k ≠ ca ∧ k ≠ cp ∧ (∀ j, pv.ownBlock = some j → k ≠ j) ∧ (∀ j, qv.ownBlock = some j → k ≠ j) := by
      intro k hk
      obtain ⟨a1, a2, a3, a4, a5, a6, a7, a8⟩ := hbd
      have := h3.fr.size
      refine ⟨by omega, by omega, by omega, by omega, by omega, by omega, by omega, fun j hj => ?_, fun j hj => ?_⟩
      · have := a7 j hj; omega
      · have := a8 j hj; omega
    have HA0 := Lib.hid hap
    have H3 := Lib.hid h3
    clear hbd hap
    clear h1 h2 h3 r1 r2 k1 k2 k3 k4 k5 k6 k7 k8 q0 q1 q4
    go_wp2_with (at_make; refine wpList_make_any rfl _ _ 22 rfl w.heap.size 4 (.bool false) 1 Try.underlying22 Try.info4 rfl _ _ _ _ 64 rfl rfl rfl rfl (by omega) (by unfold maxLen; omega) H3.out.fr.size ?_; intro w3 hown hgrow)
    have r3 : Fr no w2 w3 := (Fr.refl _ _).grown hgrow (by intro k hk; cases hk)
    have h3 := H3.out.fr1 r3 (by intro k hk; exact hk.elim)
    have hT : ∀ n, n < 64 → w3.cell? ⟨w2.heap.size, n, none⟩ = some (.bool (tolds tn [] n)) ∧ w3.frozen? ⟨w2.heap.size, n, none⟩ = false := by
      intro n hn
      refine ⟨?_, hown.frozenAt n⟩
      rw [hown.cellAt n (by omega)]
      have : tolds tn [] n = false := by simp [tolds]
      rw [this, List.getElem?_replicate, if_pos hn]
    have hap := HA0.out
    clear HA0
    generalize w2.heap.size = g at hT hap ⊢
    have H4 := Lib.hid h3
    have HT := Lib.hid hT
    have HA := Lib.hid (hap g rfl)
    clear H3 hown hgrow r3 h3 hT hap
    go_loopw [13] (fun i wr => ∃ k : Nat, k ≤ l.length ∧ i = .int .i64 k ∧ Two w wr zs tn ((l.take k).map fun x => pk x 64) ⟨b, ba, bp, pv, c, ca, cp, qv⟩ ∧
        ∀ n, n < 64 → wr.cell? ⟨g, n, none⟩ = some (.bool (tolds tn ((l.take k).map fun x => pk x 64) n)) ∧ wr.frozen? ⟨g, n, none⟩ = false) (fun i _ => l.length - (intOf i).toNat)
    case atStart => exact ⟨0, by omega, rfl, H4.out, HT.out⟩
    case round =>
      obtain ⟨k, hk, rfl, hB, hM⟩ := hrel
      have HB := Lib.hid hB
      have HM := Lib.hid hM
      clear HT H4
      by_cases hlt : k < l.length
      · have HS : Hid ((l.take (k + 1)).map (fun x => pk x 64) = (l.take k).map (fun x => pk x 64) ++ [pk l[k] 64]) := by
          unfold Hid; rw [List.take_succ_eq_append_getElem hlt, List.map_append]; rfl
        have hLk : ((l.take k).map fun x => pk x 64).length = k := by simp; omega
        have hf64 := (pk_lt l[k] 64 (by omega)).1
        obtain ⟨zb, zo, rfl, c2⟩ := (HL.out.fr hB.fr (by simp)).at1 (k := k) (u := .int .i64 l[k]) (by simp [hlt])
        clear hB hM
        generalize hL : ((l.take k).map fun x => pk x 64) = L at *
        go_wp2_with fail
        refine (pick_any l[k] 64 (by omega) (by omega) _).mono ?_
        rintro e w' ⟨rfl, rfl⟩
        generalize pk l[k] 64 = f at *
        have hlt' : (k : Int) < l.length := by omega
        clear c2
        go_wp2_with fail
        refine (decide_one HB.out (by omega) f hf64).mono ?_
        rintro e w5 ⟨rfl, hB5, r5⟩
        go_wp2_with fail
        refine (decide_two hB5 ⟨_, _, HB.out⟩ (by omega) f hf64).mono ?_
        rintro e w6 ⟨rfl, hB6, r6⟩
        have h6 := hB6.two' ⟨_, _, HB.out⟩
        have hct : w6.cell? ⟨g, f, none⟩ = some (.bool (tolds tn L f)) := by
          obtain ⟨x1, x2, x3, x4, x5, x6, x7, x8, x9⟩ := HA.out
          exact r6.cell (r5.cell (HM.out f hf64).1 (by simp; omega)) (by simp; omega)
        have hft : w6.frozen? ⟨g, f, none⟩ = false := by
          obtain ⟨x1, x2, x3, x4, x5, x6, x7, x8, x9⟩ := HA.out
          have hg := World.block_lt_of_cell? _ _ (HM.out f hf64).1
          have hg5 := World.block_lt_of_cell? _ _ (r5.cell (HM.out f hf64).1 (by simp; omega))
          exact (r6.frozen (p := ⟨g, f, none⟩) (by simp; omega) hg5).trans ((r5.frozen (p := ⟨g, f, none⟩) (by simp; omega) hg).trans (HM.out f hf64).2)
        have hMN : ∀ n, n < 64 → n ≠ f → w6.cell? ⟨g, n, none⟩ = some (.bool (tolds tn (L ++ [f]) n)) ∧ w6.frozen? ⟨g, n, none⟩ = false := by
          intro n hn hnf
          obtain ⟨x1, x2, x3, x4, x5, x6, x7, x8, x9⟩ := HA.out
          have hg := World.block_lt_of_cell? _ _ (HM.out n hn).1
          have hg5 := World.block_lt_of_cell? _ _ (r5.cell (HM.out n hn).1 (by simp; omega))
          rw [tolds_other _ _ _ _ hnf]
          exact ⟨r6.cell (r5.cell (HM.out n hn).1 (by simp; omega)) (by simp; omega), (r6.frozen (p := ⟨g, n, none⟩) (by simp; omega) hg5).trans ((r5.frozen (p := ⟨g, n, none⟩) (by simp; omega) hg).trans (HM.out n hn).2)⟩
        have hA1 : pans [] tn L f = tolds tn (L ++ [f]) f := pans_nil _ _ _
        have hτ : tolds tn L f = true → pans [] tn L f = true := fun h => by rw [hA1]; exact tolds_mono _ _ _ _ h
        have hA2 : pans [] tn L f = true → tn ≠ 0 ∧ tn ≤ (L ++ [f]).count f := fun h => by rw [hA1] at h; simpa [tolds] using h
        have hA3 : pans [] tn L f = false → tn = 0 ∨ (L ++ [f]).count f < tn := fun h => by
          rw [hA1] at h; simp only [tolds, Bool.and_eq_false_iff, decide_eq_false_iff_not] at h; omega
        have hB1 : ∀ h : k < zs.length, pans zs tn L f = zs[k] := fun h => by
          rw [pans_scr zs tn L f (by omega)]
          subst hLk; rfl
        have hB2 : zs.length ≤ k → pans zs tn L f = pans [] tn L f := fun h => pans_past zs tn L f (by omega)
        have hcz : k < zs.length → ∃ qb qo, sa = some ⟨qb, qo, none⟩ ∧ ∀ h : k < zs.length, w6.cell? ⟨qb, qo + k, none⟩ = some (.bool zs[k]) := fun h => by
          obtain ⟨qb, qo, e1, e2⟩ := (HZ.out.fr h6.fr (by simp)).at1 (k := k) (u := .bool zs[k]) (by simp [h])
          exact ⟨qb, qo, e1, fun _ => e2⟩
        have hend : ∀ (A : Bool), A = tolds tn (L ++ [f]) f → Two w (w6.setCell ⟨g, f, none⟩ (.bool A)) zs tn (L ++ [f]) ⟨b, ba, bp, pv, c, ca, cp, qv⟩ ∧
            ∀ n, n < 64 → (w6.setCell ⟨g, f, none⟩ (.bool A)).cell? ⟨g, n, none⟩ = some (.bool (tolds tn (L ++ [f]) n)) ∧ (w6.setCell ⟨g, f, none⟩ (.bool A)).frozen? ⟨g, n, none⟩ = false := by
          intro A hA
          refine ⟨h6.fr1 ((Fr.refl (only [g]) w6).setCell _ _ (.inl (by simp))) ?_, fun n hn => ?_⟩
          · intro i hi
            simp only [only_iff, List.mem_singleton] at hi
            subst hi
            exact HA.out
          · by_cases hnf : n = f
            · subst hnf
              subst hA
              exact ⟨World.cell?_setCell_same _ _ _ hct, by simpa using hft⟩
            · obtain ⟨x1, x2⟩ := hMN n hn hnf
              exact ⟨by rw [World.cell?_setCell_other _ _ _ _ (by simp <;> omega)]; exact x1, by simpa using x2⟩
        have HE := Lib.hid hend
        have H6 := Lib.hid h6
        have hA4 := hA1.symm
        generalize pans [] tn L f = A at *
        generalize tolds tn (L ++ [f]) f = A' at hA4 hA1 HE
        obtain rfl := hA4
        generalize tolds tn L f = τ at *
        generalize pans zs tn L f = B at *
        have HEA := Lib.hid (HE.out A' rfl)
        clear hend HE h6 hA1 hMN hB5 hB6 r5 r6 HM HB
        generalize hcnt : List.count f (L ++ [f]) = cnt at *
        have HC : Hid (∀ w', Pol w' [] tn (L ++ [f]) b ba bp pv → Calls Try.prog 14 #[.pointer (some ⟨b, 0, none⟩), .int .i64 f] w' fun e w'' => e = .returned (.int .i64 cnt) ∧ w' = w'') := by
          intro w' h; rw [← hcnt]; exact count_pol h f hf64
        clear hcnt
        have HA2 := Lib.hid hA2
        have HA3 := Lib.hid hA3
        have HT1 := Lib.hid hτ
        clear hA2 hA3 hτ
        have HB1 := Lib.hid hB1
        have HB2 := Lib.hid hB2
        have HCZ := Lib.hid hcz
        clear hB1 hB2 hcz
        have hRel : ∀ w9 : World, (Two w w9 zs tn (L ++ [f]) ⟨b, ba, bp, pv, c, ca, cp, qv⟩ ∧ ∀ n, n < 64 → w9.cell? ⟨g, n, none⟩ = some (.bool (tolds tn (L ++ [f]) n)) ∧ w9.frozen? ⟨g, n, none⟩ = false) →
            ∃ k' : Nat, k' ≤ l.length ∧ Value.int .i64 ((k : Int) + 1) = .int .i64 k' ∧ Two w w9 zs tn ((l.take k').map fun x => pk x 64) ⟨b, ba, bp, pv, c, ca, cp, qv⟩ ∧
        ∀ n, n < 64 → w9.cell? ⟨g, n, none⟩ = some (.bool (tolds tn ((l.take k').map fun x => pk x 64) n)) ∧ w9.frozen? ⟨g, n, none⟩ = false := by
          intro w9 h
          exact ⟨k + 1, by omega, by go_num, by rw [HS.out]; exact h.1, by rw [HS.out]; exact h.2⟩
        have HRel := Lib.hid hRel
        clear hRel HS
        cases A' with
        | true =>
          obtain ⟨ht1, ht2⟩ := HA2.out rfl
          have e1 : ((tn : Int) == 0) = false := by simp; omega
          have e2 : 0 < (tn : Int) := by omega
          have e3 : (tn : Int) ≤ (cnt : Int) := by omega
          by_cases hkz : k < zs.length
          · obtain rfl := HB1.out hkz
            obtain ⟨qb, qo, rfl, hq⟩ := HCZ.out hkz
            have cq := hq hkz
            have hkz' : (k : Int) < zs.length := by omega
            clear hq ht1 ht2
            cases τ <;>
              (go_wp2_with fail
               refine (HC.out _ H6.out.one).mono ?_
               rintro e w7 ⟨rfl, rfl⟩
               go_wp2_with fail
               go_roundw
               case rel => exact HRel.out _ HEA.out
               case measure => simp [intOf]; omega)
          · obtain rfl := HB2.out (by omega)
            have hkz' : ¬ (k : Int) < zs.length := by omega
            clear ht1 ht2
            cases τ <;>
              (go_wp2_with fail
               refine (HC.out _ H6.out.one).mono ?_
               rintro e w7 ⟨rfl, rfl⟩
               go_wp2_with fail
               go_roundw
               case rel => exact HRel.out _ HEA.out
               case measure => simp [intOf]; omega)
        | false =>
          obtain rfl : τ = false := by
            cases τ with
            | false => rfl
            | true => exact absurd (HT1.out rfl) (by simp)
          rcases HA3.out rfl with ht1 | ht1
          · have e1 : ((tn : Int) == 0) = true := by simp; omega
            have e2 : ¬ 0 < (tn : Int) := by omega
            clear ht1
            by_cases hkz : k < zs.length
            · obtain rfl := HB1.out hkz
              obtain ⟨qb, qo, rfl, hq⟩ := HCZ.out hkz
              have cq := hq hkz
              have hkz' : (k : Int) < zs.length := by omega
              clear hq
              go_wp2_with fail
              go_roundw
              case rel => exact HRel.out _ HEA.out
              case measure => simp [intOf]; omega
            · obtain rfl := HB2.out (by omega)
              have hkz' : ¬ (k : Int) < zs.length := by omega
              go_wp2_with fail
              go_roundw
              case rel => exact HRel.out _ HEA.out
              case measure => simp [intOf]; omega
          · have e1 : ((tn : Int) == 0) = false := by simp; omega
            have e2 : 0 < (tn : Int) := by omega
            have e3 : ¬ (tn : Int) ≤ (cnt : Int) := by omega
            clear ht1
            by_cases hkz : k < zs.length
            · obtain rfl := HB1.out hkz
              obtain ⟨qb, qo, rfl, hq⟩ := HCZ.out hkz
              have cq := hq hkz
              have hkz' : (k : Int) < zs.length := by omega
              clear hq
              go_wp2_with fail
              refine (HC.out _ H6.out.one).mono ?_
              rintro e w7 ⟨rfl, rfl⟩
              go_wp2_with fail
              go_roundw
              case rel => exact HRel.out _ HEA.out
              case measure => simp [intOf]; omega
            · obtain rfl := HB2.out (by omega)
              have hkz' : ¬ (k : Int) < zs.length := by omega
              go_wp2_with fail
              refine (HC.out _ H6.out.one).mono ?_
              rintro e w7 ⟨rfl, rfl⟩
              go_wp2_with fail
              go_roundw
              case rel => exact HRel.out _ HEA.out
              case measure => simp [intOf]; omega
      · clear hB hM HM
        obtain rfl : k = l.length := by omega
        have HLn : Hid (((l.take l.length).map fun x => pk x 64).length = l.length) := by unfold Hid; simp
        generalize (l.take l.length).map (fun x => pk x 64) = L at *
        go_wp2_with fail
        refine (asked_pol HB.out.one).mono ?_
        rintro e w7 ⟨rfl, rfl⟩
        rw [HLn.out]
        go_wp2_with fail
        refine (asked_pol HB.out.two).mono ?_
        rintro e w7 ⟨rfl, rfl⟩
        rw [HLn.out]
        go_wp2_with fail
        go_ret
        exact ⟨rfl, HB.out.fr⟩

end Go.Proofs.Ytfiabeibiehlaaa

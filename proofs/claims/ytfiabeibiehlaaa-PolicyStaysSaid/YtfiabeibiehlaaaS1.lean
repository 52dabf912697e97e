import Derived.Test.YtfiabeibiehlaaaN1
import Derived.Test.YtfiabeibiehlaaaLex
namespace Go.Proofs.Ytfiabeibiehlaaa
open Go.RowKit

/-- where the two policies lie -/
structure Spot where
  b : Nat
  ba : Nat
  bp : Nat
  br : Nat
  B : Nat
  sv : Value
  rv : Value

/-- both policies, the one asked L, the other M; what was there at W is as it was -/
structure Both (W w : World) (scr : List Bool) (thr : Nat) (L M : List Nat) (s : Spot) : Prop where
  pol : Pol w scr thr L s.b s.ba s.bp s.sv
  ref : ∃ lv, RefAt w scr thr M s.br s.B s.rv lv
  fr : Fr no W w
  hB : s.B ≤ w.heap.size
  hb : W.heap.size ≤ s.b ∧ s.b < s.B ∧ s.b ≠ s.br
  hba : W.heap.size ≤ s.ba ∧ s.ba < s.B ∧ s.ba ≠ s.br
  hbp : s.bp < s.B ∧ s.bp ≠ s.br
  hsv : ∀ k, s.sv.ownBlock = some k → k < s.B ∧ k ≠ s.br
  hbr : W.heap.size ≤ s.br
  hrv : ∀ k, s.rv.ownBlock = some k → k ≠ s.b ∧ k ≠ s.ba
  hT : thr ≤ 2147483647

variable {W w : World} {scr : List Bool} {thr : Nat} {L M : List Nat} {s : Spot}

theorem Both.drewN (h : Both W w scr thr L M s) (n : Nat) : Both W (w.drewN n) scr thr L M s :=
  ⟨h.pol.fr ((Fr.refl no w).drewN n) (by simp) (by simp) (by simp) (by simp), h.ref.imp fun _ r => r.fr ((Fr.refl no w).drewN n) (by simp) (by simp), h.fr.drewN n, h.hB, h.hb, h.hba, h.hbp, h.hsv, h.hbr, h.hrv, h.hT⟩

theorem Both.drew (h : Both W w scr thr L M s) : Both W w.drew scr thr L M s := h.drewN 1

theorem Both.cellL (h : Both W w scr thr L M s) : ∃ a c, w.cell? ⟨s.br, 2, none⟩ = some (.slice a M.length c) := by
  obtain ⟨lv, hr⟩ := h.ref
  obtain ⟨xa, xc, rfl⟩ := owns_shape hr.own
  exact ⟨xa, xc, cell_of_heap hr.blk rfl⟩
theorem Both.other {w' : World} (h : Both W w scr thr L M s) (hf : Fr no w w') : Both W w' scr thr L M s :=
  ⟨h.pol.fr hf (by simp) (by simp) (by simp) (by simp), h.ref.imp fun _ r => r.fr hf (by simp) (by simp), h.fr.trans hf, Nat.le_trans h.hB hf.size, h.hb, h.hba, h.hbp, h.hsv, h.hbr, h.hrv, h.hT⟩

theorem Both.fr1 {w' : World} {S : Nat → Prop} (h : Both W w scr thr L M s) (hf : Fr S w w')
    (hS : ∀ k, S k → W.heap.size ≤ k ∧ k < s.B ∧ k ≠ s.b ∧ k ≠ s.ba ∧ k ≠ s.bp ∧ k ≠ s.br ∧ (∀ j, s.sv.ownBlock = some j → k ≠ j) ∧ (∀ j, s.rv.ownBlock = some j → k ≠ j)) : Both W w' scr thr L M s := by
  refine ⟨h.pol.fr hf ?_ ?_ ?_ ?_, h.ref.imp fun _ r => r.fr hf ?_ ?_, h.fr.trans' hf fun i hi _ => (hS i hi).1, Nat.le_trans h.hB hf.size, h.hb, h.hba, h.hbp, h.hsv, h.hbr, h.hrv, h.hT⟩
  · intro m; exact (hS _ m).2.2.1 rfl
  · intro m; exact (hS _ m).2.2.2.1 rfl
  · intro m; exact (hS _ m).2.2.2.2.1 rfl
  · intro k hk m; exact (hS _ m).2.2.2.2.2.2.1 k hk rfl
  · intro k m; exact ⟨(hS _ m).2.1, (hS _ m).2.2.2.2.2.1⟩
  · intro k hk m; exact (hS _ m).2.2.2.2.2.2.2 k hk rfl

theorem decide_both (h : Both W w scr thr L M s) (hL : L.length < 1000) (f : Nat) (hf : f < 64) :
    Calls Try.prog 11 #[.pointer (some ⟨s.b, 0, none⟩), .int .i64 f] w fun e w' => e = .returned (.bool (pans scr thr L f)) ∧ Both W w' scr thr (L ++ [f]) M s := by
  refine (decide_pol h.pol (by omega) f hf).mono ?_
  rintro e w' ⟨rfl, h1, r1⟩
  obtain ⟨h2, h3, h4⟩ := h.hb
  obtain ⟨h5, h6, h7⟩ := h.hba
  refine ⟨rfl, h1, h.ref.imp fun lv r => r.fr r1 ?_ ?_, h.fr.trans' r1 (by simp; omega), Nat.le_trans h.hB r1.size, h.hb, h.hba, h.hbp, h.hsv, h.hbr, h.hrv, h.hT⟩
  · simp; omega
  · intro k hk; have := h.hrv k hk; simp; omega

theorem decide_both_no (h : Both W w scr thr L M s) (f : Int) (hf : f < 0 ∨ 64 ≤ f) :
    Calls Try.prog 11 #[.pointer (some ⟨s.b, 0, none⟩), .int .i64 f] w fun e w' => e = .returned (.bool false) ∧ w = w' := decide_pol_no h.pol f hf
theorem asked_both (h : Both W w scr thr L M s) :
    Calls Try.prog 13 #[.pointer (some ⟨s.b, 0, none⟩)] w fun e w' => e = .returned (.int .i64 L.length) ∧ w = w' := asked_pol h.pol
theorem count_both (h : Both W w scr thr L M s) (f : Nat) (hf : f < 64) :
    Calls Try.prog 14 #[.pointer (some ⟨s.b, 0, none⟩), .int .i64 f] w fun e w' => e = .returned (.int .i64 (L.count f)) ∧ w = w' := count_pol h.pol f hf
theorem count_both_no (h : Both W w scr thr L M s) (f : Int) (hf : f < 0 ∨ 64 ≤ f) :
    Calls Try.prog 14 #[.pointer (some ⟨s.b, 0, none⟩), .int .i64 f] w fun e w' => e = .returned (.int .i64 0) ∧ w = w' := count_pol_no h.pol f hf
theorem refcount_both (h : Both W w scr thr L M s) (hM : M.length < 1000) (f : Nat) :
    Calls Try.prog 15 #[.pointer (some ⟨s.br, 0, none⟩), .int .i64 f] w fun e w' => e = .returned (.int .i64 (M.count f)) ∧ w = w' := by
  obtain ⟨lv, hr⟩ := h.ref
  have := refcount_any hr (by omega) f
  rwa [cntOf_count] at this
theorem cntOf_far {f : Int} (hf : f < 0 ∨ 64 ≤ f) (M : List Nat) (hM : ∀ x ∈ M, x < 64) : cntOf f M = 0 := by
  unfold cntOf
  rw [List.countP_eq_zero]
  intro x hx
  have := hM x hx
  simp; omega
theorem refcount_both_no (h : Both W w scr thr L M s) (hM : M.length < 1000) (hM' : ∀ x ∈ M, x < 64) (f : Int) (hf : f < 0 ∨ 64 ≤ f) :
    Calls Try.prog 15 #[.pointer (some ⟨s.br, 0, none⟩), .int .i64 f] w fun e w' => e = .returned (.int .i64 0) ∧ w = w' := by
  obtain ⟨lv, hr⟩ := h.ref
  have := refcount_any hr (by omega) f
  rwa [cntOf_far hf M hM'] at this
theorem refdecide_both (h : Both W w scr thr L M s) (hM : M.length < 1000) (f : Nat) (hf : f < 64) :
    Calls Try.prog 12 #[.pointer (some ⟨s.br, 0, none⟩), .int .i64 f] w fun e w' => e = .returned (.bool (pans scr thr M f)) ∧ Both W w' scr thr L (M ++ [f]) s := by
  obtain ⟨lv, hr⟩ := h.ref
  refine (refdecide_yes hr h.hB (by omega) h.hT f hf).mono ?_
  rintro e w' ⟨rfl, h1, r1⟩
  obtain ⟨h2, h3, h4⟩ := h.hb
  obtain ⟨h5, h6, h7⟩ := h.hba
  obtain ⟨h8, h9⟩ := h.hbp
  have h10 := h.hbr
  have hW := h.fr.size
  refine ⟨rfl, h.pol.fr r1 ?_ ?_ ?_ ?_, h1, h.fr.trans' r1 (by intro i hi _; simp at hi; omega), Nat.le_trans h.hB r1.size, h.hb, h.hba, h.hbp, h.hsv, h.hbr, h.hrv, h.hT⟩
  · simp; omega
  · simp; omega
  · simp; omega
  · intro k hk; have := h.hsv k hk; simp; omega

def vld (l : List Int) : List Nat := (l.filter fun z => decide (0 ≤ z ∧ z < 64)).map Int.toNat
theorem vld_yes (l : List Int) (f : Nat) (hf : f < 64) : vld (l ++ [(f : Int)]) = vld l ++ [f] := by
  have : decide (0 ≤ (f : Int) ∧ (f : Int) < 64) = true := by simp; omega
  rw [vld, List.filter_append, List.filter_cons, if_pos this]
  simp [vld]
theorem vld_no (l : List Int) (z : Int) (h : z < 0 ∨ 64 ≤ z) : vld (l ++ [z]) = vld l := by
  have : ¬ decide (0 ≤ z ∧ z < 64) = true := by simp; omega
  rw [vld, List.filter_append, List.filter_cons, if_neg this]
  simp [vld]
theorem vld_lt (l : List Int) : ∀ x ∈ vld l, x < 64 := by
  intro x hx
  simp only [vld, List.mem_map, List.mem_filter, decide_eq_true_eq] at hx
  obtain ⟨z, ⟨_, h1, h2⟩, rfl⟩ := hx
  omega
theorem vld_len (l : List Int) : (vld l).length ≤ l.length := by
  simp only [vld, List.length_map]; exact List.length_filter_le _ _

/-- what lay at W and is read, is read after it too -/
def Stay (W w w' : World) : Prop := ∀ p v, p.block < W.heap.size → w.cell? p = some v → w'.cell? p = some v
theorem Both.stay {w' : World} {L' M' : List Nat} (h : Both W w scr thr L M s) (h' : Both W w' scr thr L' M' s) : Stay W w w' := by
  intro p v hp hc
  rw [World.cell?_of_block (h'.fr.block p.block hp (by simp)), ← World.cell?_of_block (h.fr.block p.block hp (by simp))]
  exact hc
theorem decide_both2 (h : Both W w scr thr L M s) (hL : L.length < 1000) (f : Nat) (hf : f < 64) :
    Calls Try.prog 11 #[.pointer (some ⟨s.b, 0, none⟩), .int .i64 f] w fun e w' => e = .returned (.bool (pans scr thr L f)) ∧ Both W w' scr thr (L ++ [f]) M s ∧ Stay W w w' :=
  (decide_both h hL f hf).mono fun _ _ ⟨h1, h2⟩ => ⟨h1, h2, h.stay h2⟩
theorem refdecide_both2 (h : Both W w scr thr L M s) (hM : M.length < 1000) (f : Nat) (hf : f < 64) :
    Calls Try.prog 12 #[.pointer (some ⟨s.br, 0, none⟩), .int .i64 f] w fun e w' => e = .returned (.bool (pans scr thr M f)) ∧ Both W w' scr thr L (M ++ [f]) s ∧ Stay W w w' :=
  (refdecide_both h hM f hf).mono fun _ _ ⟨h1, h2⟩ => ⟨h1, h2, h.stay h2⟩

set_option maxHeartbeats 1000000 in
theorem script_any (w : World) (sv : Value) (zs : List Bool) (hz : Reads w sv 1 zs.length (zs.map .bool)) (t : Int) (lv : Value) (l : List Int) (hl : Reads w lv 1 l.length (l.map (.int .i64))) :
    Calls Try.prog 3 #[sv, .int .i64 t, lv] w fun e w' => e = .returned (.bool true) ∧ Fr no w w' := by
  obtain ⟨sa, sc, rfl⟩ := hz.shape
  obtain ⟨la, lc, rfl⟩ := hl.shape
  by_cases hg : 200 < zs.length ∨ 300 < l.length
  · have hlen : ∃ a b : Bool, decide ((200 : Int) < zs.length) = a ∧ decide ((300 : Int) < l.length) = b := ⟨_, _, rfl, rfl⟩
    by_cases h1 : 200 < zs.length
    · clear hg hlen
      go_enter Try.func3, Try.ntmps3
      go_wp2_with fail
      refine (awake_any _).mono ?_
      rintro e w2 ⟨rfl, r2⟩
      go_wp2_with fail
      go_ret
      exact ⟨rfl, r2⟩
    · have h2 : 300 < l.length := by omega
      clear hg hlen
      go_enter Try.func3, Try.ntmps3
      go_wp2_with fail
      refine (awake_any _).mono ?_
      rintro e w2 ⟨rfl, r2⟩
      go_wp2_with fail
      go_ret
      exact ⟨rfl, r2⟩
  · have g1 : zs.length ≤ 200 := by omega
    have g2 : l.length ≤ 300 := by omega
    clear hg
    have HR := Lib.hid (hz.fr ((Fr.refl no w).alloc (.cells #[] 4)) (by simp))
    have HO := Lib.hid (owns_new w 4 1)
    have HL := Lib.hid hl
    have HZ := Lib.hid hz
    clear hl hz
    go_enter Try.func3, Try.ntmps3
    go_wp2_with (at_builtin; refine wpList_append_any rfl _ _ 22 rfl w.heap.size 4 (.bool false) 1 1 Try.underlying22 Try.info4 rfl (by decide) _ 0 [] rfl HO.out zs.length _ HR.out bools_one (by unfold maxLen; omega) (by omega) (by simp) ?_; intro a' c' w1 hown' hgrow)
    simp only [Nat.zero_add, List.nil_append] at hown'
    have r1 : Fr no w w1 := ((Fr.refl no w).alloc _).grown hgrow (fun k hk => .inr (Nat.le_of_eq (Option.some.inj hk)))
    have hin := Lib.hid (owns_reads hown')
    have HZ1 := Lib.hid (HZ.out.fr r1 (by simp))
    have HW := Lib.hid hown'
    clear hgrow HO HR hown'
    by_cases ht : t < 0 ∨ 2147483647 < t
    · refine (new_no _ _ t ht).mono ?_
      rintro e w' ⟨rfl, rfl⟩
      go_wp2_with fail
      refine (refnew_no _ _ t ht).mono ?_
      rintro e w' ⟨rfl, rfl⟩
      go_wp2_with fail
      refine (awake_any _).mono ?_
      rintro e w2 ⟨rfl, r2⟩
      go_wp2_with fail
      go_ret
      exact ⟨rfl, r1.trans r2⟩
    · obtain ⟨tn, rfl⟩ := Int.eq_ofNat_of_zero_le (show 0 ≤ t by omega)
      have htn : tn ≤ 2147483647 := by omega
      clear ht
      refine (new_yes _ _ _ hin.out (by omega) tn htn).mono ?_
      rintro e w2 ⟨b, ba, bp, sv, rfl, h2, r2, k1, k2, k3, k4⟩
      go_wp2_with fail
      refine (refnew_yes _ _ _ (HZ1.out.fr r2 (by simp)) (by omega) tn htn).mono ?_
      rintro e w3 ⟨br, rv, rfl, h3, r3, k5, k6⟩
      go_wp2_with fail
      have q1 := r1.size
      have q2 := r2.size
      have q3 := r3.size
      have q4 : b < w2.heap.size ∧ ba < w2.heap.size ∧ bp < w2.heap.size := by
        obtain ⟨n, h, _⟩ := h2
        exact ⟨(Array.getElem?_eq_some_iff.1 h.blk.choose_spec).1, (Array.getElem?_eq_some_iff.1 h.at_).1, (Array.getElem?_eq_some_iff.1 h.self).1⟩
      have h4 : Both w w3 zs tn [] [] ⟨b, ba, bp, br, w3.heap.size, sv, rv⟩ := by
        refine ⟨h2.fr r3 (by simp) (by simp) (by simp) (by simp), ⟨_, h3⟩, (r1.trans r2).trans r3, Nat.le_refl _, ?_, ?_, ?_, ?_, ?_, ?_, htn⟩
        · dsimp only; omega
        · dsimp only; omega
        · dsimp only; omega
        · dsimp only; intro k hk; have := k4 k hk; omega
        · dsimp only; omega
        · dsimp only; intro k hk; have := k6 k hk; omega
      have hown3 := owns_fr (HW.out) (r2.trans r3) (by simp)
      have hmid : ∀ g, a' = some g → g.spot = none ∧ ∀ j, 0 ≤ j → ∀ (hj : j < zs.length), w3.cell? ⟨g.block, g.off + j, none⟩ = some (.bool zs[j]) ∧ w3.frozen? ⟨g.block, g.off + j, none⟩ = false := by
        intro g hg
        subst hg
        rcases hown3.2 with ⟨hh, _⟩ | ⟨g', cap, cur, hv, _⟩
        · cases hh
        · cases hv
          refine ⟨rfl, fun j _ hj => ⟨?_, ?_⟩⟩
          · rw [Nat.zero_add, hown3.cellAt j (by omega)]; simp [hj]
          · exact hown3.frozenAt _
      have hg : ∀ g, a' = some g → w.heap.size ≤ g.block ∧ g.block < w1.heap.size := fun g hg => HW.out.lt g.block (by rw [hg]; rfl)
      have hap : ∀ g, a' = some g → w.heap.size ≤ g.block ∧ g.block < w3.heap.size ∧ g.block ≠ b ∧ g.block ≠ ba ∧ g.block ≠ bp ∧ g.block ≠ br ∧ (∀ j, sv.ownBlock = some j → g.block ≠ j) ∧ (∀ j, rv.ownBlock = some j → g.block ≠ j) := by
        intro g hg'
        have := hg g hg'
        refine ⟨by omega, by omega, by omega, by omega, by omega, by omega, fun j hj => ?_, fun j hj => ?_⟩
        · have := k4 j hj; omega
        · have := k6 j hj; omega
      have hne : 0 < zs.length → ∃ g, a' = some g := by
        intro hp
        rcases hown3.2 with ⟨_, h0⟩ | ⟨g', cap, cur, hv, _⟩
        · omega
        · cases hv; exact ⟨_, rfl⟩
      have H4 := Lib.hid h4
      have HM := Lib.hid hmid
      have HA := Lib.hid hap
      have HN := Lib.hid hne
      clear h4 h2 h3 k1 k2 k3 k4 k5 k6 hin HZ1 HW r1 r2 r3 q1 q2 q3 q4 hmid hap hg hne hown3
      go_loopw [12] (fun i wr => ∃ k : Nat, k ≤ zs.length ∧ i = .int .i64 k ∧ Both w wr zs tn [] [] ⟨b, ba, bp, br, w3.heap.size, sv, rv⟩ ∧
        ∀ g, a' = some g → ∀ j, k ≤ j → ∀ (hj : j < zs.length), wr.cell? ⟨g.block, g.off + j, none⟩ = some (.bool zs[j]) ∧ wr.frozen? ⟨g.block, g.off + j, none⟩ = false) (fun i _ => zs.length - (intOf i).toNat)
      case atStart => exact ⟨0, by omega, rfl, H4.out, fun g hg => (HM.out g hg).2⟩
      case round =>
        obtain ⟨k, hk, rfl, hB, hM⟩ := hrel
        by_cases hlt : k < zs.length
        · obtain ⟨g, hg⟩ := HN.out (by omega)
          obtain ⟨gb, go, gs⟩ := g
          obtain rfl : gs = none := (HM.out _ hg).1
          subst hg
          have hA := HA.out _ rfl
          have HM2 := Lib.hid (hM _ rfl)
          obtain ⟨c1, f1⟩ := hM _ rfl k (Nat.le_refl _) hlt
          obtain ⟨zb, zo, rfl, c2⟩ := (HZ.out.fr hB.fr (by simp)).at1 (k := k) (u := .bool zs[k]) (by simp [hlt])
          have HB := Lib.hid hB
          dsimp only at c1 f1
          clear hM hB
          have hlt' : (k : Int) < zs.length := by omega
          go_wp2_with fail
          go_quiet (fail)
          go_wp2_with fail
          have hfs : Fr (only [gb]) wr ((wr.drewN nq).setCell ⟨gb, go + k, none⟩ (.bool !zs[k])) := ((Fr.refl _ _).drewN nq).setCell _ _ (.inl (by simp))
          go_roundw
          case rel =>
            refine ⟨k + 1, by omega, by go_num, HB.out.fr1 hfs ?_, fun g hg j hj1 hj2 => ?_⟩
            · rintro i hi
              simp only [only_iff, List.mem_singleton] at hi
              subst hi
              exact hA
            · cases hg
              obtain ⟨q1, q2⟩ := HM2.out j (by omega) hj2
              dsimp only at q1 q2 ⊢
              refine ⟨?_, by simpa using q2⟩
              rw [World.cell?_setCell_other _ _ _ _ (by simp <;> omega)]
              exact q1
          case measure => simp [intOf]; omega
        · have HB := Lib.hid hB
          clear hM hB HM HA HN H4
          go_wp2_with fail
          generalize w3.heap.size = B3 at HB
          clear hlt hk
          go_loopw [13] (fun i wr => ∃ k : Nat, k ≤ l.length ∧ i = .int .i64 k ∧ Both w wr zs tn (vld (l.take k)) (vld (l.take k)) ⟨b, ba, bp, br, B3, sv, rv⟩) (fun i _ => l.length - (intOf i).toNat)
          case atStart => exact ⟨0, by omega, rfl, HB.out⟩
          case round =>
            obtain ⟨k, hk, rfl, hB⟩ := hrel
            have HB2 := Lib.hid hB
            by_cases hlt : k < l.length
            · obtain ⟨zb, zo, rfl, c2⟩ := (HL.out.fr hB.fr (by simp)).at1 (k := k) (u := .int .i64 l[k]) (by simp [hlt])
              clear hB HB
              have hlt' : (k : Int) < l.length := by omega
              go_wp2_with fail
              have HV := Lib.hid (vld_lt (l.take k))
              have HN : (vld (l.take k)).length < 999 := by have := vld_len (l.take k); simp at this; omega
              have hzb : zb < w.heap.size := by
                obtain ⟨b', o', e1, e2⟩ := HL.out.at1 (k := k) (u := .int .i64 l[k]) (by simp [hlt])
                cases e1
                exact World.block_lt_of_cell? _ _ e2
              have HS := Lib.hid (List.take_succ_eq_append_getElem hlt)
              by_cases hv : 0 ≤ l[k] ∧ l[k] < 64
              · obtain ⟨f, hf⟩ := Int.eq_ofNat_of_zero_le hv.1
                have hf64 : f < 64 := by omega
                have HF := Lib.hid hf
                rw [hf] at c2
                clear hv hf
                generalize hL : vld (l.take k) = L at *
                have cd : wr.drew.cell? ⟨zb, zo + k, none⟩ = some (.int .i64 f) := c2
                refine Lex.region [5, 11, 15, 29, 35] [14, 10, 14] (by kernel_rfl) (by kernel_rfl) ?_
                refine Lex.opens (fun w' => w'.cell? ⟨zb, zo + k, none⟩ = some (.int .i64 f)) (cd) ?_
                repeat (first
                  | (refine Lex.skips (by rfl) ?_; (try simp only [Act.put, List.setIfInBounds_toArray, List.set_cons_zero, List.set_cons_succ]))
                  | (refine Lex.quiet (v := ?_) (by rfl) (by rfl) ?_ ?_; rotate_left; (focus (intro w' hS'; go_simp; try rfl)); (try simp only [Act.put, List.setIfInBounds_toArray, List.set_cons_zero, List.set_cons_succ])))
                refine Lex.loud (by rfl) (by rfl) ?_
                intro K' hK'
                go_simp
                refine (decide_both2 HB2.out.drew (by omega) f hf64).mono ?_
                rintro e w2 ⟨rfl, hB3, hs3⟩
                have c3 := hs3 _ _ hzb cd
                have HB3 := Lib.hid hB3
                clear hB3 hs3 HB2
                refine hK' _ _ (c3) ?_
                clear hK'
                try simp only [Act.put, List.setIfInBounds_toArray, List.set_cons_zero, List.set_cons_succ]
                repeat (first
                  | (refine Lex.skips (by rfl) ?_; (try simp only [Act.put, List.setIfInBounds_toArray, List.set_cons_zero, List.set_cons_succ]))
                  | (refine Lex.quiet (v := ?_) (by rfl) (by rfl) ?_ ?_; rotate_left; (focus (intro w' hS'; go_simp; try rfl)); (try simp only [Act.put, List.setIfInBounds_toArray, List.set_cons_zero, List.set_cons_succ])))
                refine Lex.loud (by rfl) (by rfl) ?_
                intro K' hK'
                go_simp
                refine (refdecide_both2 HB3.out (by omega) f hf64).mono ?_
                rintro e w4 ⟨rfl, hB4, hs4⟩
                have c4 := hs4 _ _ hzb c3
                obtain ⟨xa, xc, cL⟩ := hB4.cellL
                have HB4 := Lib.hid hB4
                clear hB4 hs4 HB3
                refine hK' _ _ (c4) ?_
                clear hK'
                try simp only [Act.put, List.setIfInBounds_toArray, List.set_cons_zero, List.set_cons_succ]
                repeat (first
                  | (refine Lex.skips (by rfl) ?_; (try simp only [Act.put, List.setIfInBounds_toArray, List.set_cons_zero, List.set_cons_succ]))
                  | (refine Lex.quiet (v := ?_) (by rfl) (by rfl) ?_ ?_; rotate_left; (focus (intro w' hS'; go_simp; try rfl)); (try simp only [Act.put, List.setIfInBounds_toArray, List.set_cons_zero, List.set_cons_succ])))
                refine Lex.done ?_
                refine Lex.opens (fun w' => w'.cell? ⟨br, 2, none⟩ = some (.slice xa (L ++ [f]).length xc)) (cL) ?_
                repeat (first
                  | (refine Lex.skips (by rfl) ?_; (try simp only [Act.put, List.setIfInBounds_toArray, List.set_cons_zero, List.set_cons_succ]))
                  | (refine Lex.quiet (v := ?_) (by rfl) (by rfl) ?_ ?_; rotate_left; (focus (intro w' hS'; go_simp; try rfl)); (try simp only [Act.put, List.setIfInBounds_toArray, List.set_cons_zero, List.set_cons_succ])))
                refine Lex.loud (by rfl) (by rfl) ?_
                intro K' hK'
                go_simp
                refine (asked_both HB4.out).mono ?_
                rintro e w5 ⟨rfl, rfl⟩
                refine hK' _ _ (cL) ?_
                clear hK'
                try simp only [Act.put, List.setIfInBounds_toArray, List.set_cons_zero, List.set_cons_succ]
                repeat (first
                  | (refine Lex.skips (by rfl) ?_; (try simp only [Act.put, List.setIfInBounds_toArray, List.set_cons_zero, List.set_cons_succ]))
                  | (refine Lex.quiet (v := ?_) (by rfl) (by rfl) ?_ ?_; rotate_left; (focus (intro w' hS'; go_simp; try rfl)); (try simp only [Act.put, List.setIfInBounds_toArray, List.set_cons_zero, List.set_cons_succ])))
                refine Lex.done ?_
                refine Lex.opens (fun w' => w'.cell? ⟨zb, zo + k, none⟩ = some (.int .i64 f)) (c4) ?_
                repeat (first
                  | (refine Lex.skips (by rfl) ?_; (try simp only [Act.put, List.setIfInBounds_toArray, List.set_cons_zero, List.set_cons_succ]))
                  | (refine Lex.quiet (v := ?_) (by rfl) (by rfl) ?_ ?_; rotate_left; (focus (intro w' hS'; go_simp; try rfl)); (try simp only [Act.put, List.setIfInBounds_toArray, List.set_cons_zero, List.set_cons_succ])))
                refine Lex.loud (by rfl) (by rfl) ?_
                intro K' hK'
                go_simp
                refine (count_both HB4.out f hf64).mono ?_
                rintro e w5 ⟨rfl, rfl⟩
                refine hK' _ _ (c4) ?_
                clear hK'
                try simp only [Act.put, List.setIfInBounds_toArray, List.set_cons_zero, List.set_cons_succ]
                repeat (first
                  | (refine Lex.skips (by rfl) ?_; (try simp only [Act.put, List.setIfInBounds_toArray, List.set_cons_zero, List.set_cons_succ]))
                  | (refine Lex.quiet (v := ?_) (by rfl) (by rfl) ?_ ?_; rotate_left; (focus (intro w' hS'; go_simp; try rfl)); (try simp only [Act.put, List.setIfInBounds_toArray, List.set_cons_zero, List.set_cons_succ])))
                refine Lex.loud (by rfl) (by rfl) ?_
                intro K' hK'
                go_simp
                refine (refcount_both HB4.out (by simp; omega) f).mono ?_
                rintro e w5 ⟨rfl, rfl⟩
                refine hK' _ _ (c4) ?_
                clear hK'
                try simp only [Act.put, List.setIfInBounds_toArray, List.set_cons_zero, List.set_cons_succ]
                repeat (first
                  | (refine Lex.skips (by rfl) ?_; (try simp only [Act.put, List.setIfInBounds_toArray, List.set_cons_zero, List.set_cons_succ]))
                  | (refine Lex.quiet (v := ?_) (by rfl) (by rfl) ?_ ?_; rotate_left; (focus (intro w' hS'; go_simp; try rfl)); (try simp only [Act.put, List.setIfInBounds_toArray, List.set_cons_zero, List.set_cons_succ])))
                refine Lex.done ?_
                refine Lex.ends ?_
                go_wp2_with fail
                go_roundw
                case rel => exact ⟨k + 1, by omega, by go_num, by rw [HS.out, HF.out, vld_yes _ _ hf64, hL]; exact HB4.out⟩
                case measure => simp [intOf]; omega
              · have hv' : l[k] < 0 ∨ 64 ≤ l[k] := by omega
                generalize hz : l[k] = z at *
                have HZv := Lib.hid hv'
                clear hv hv' hz
                generalize hL : vld (l.take k) = L at *
                have cd : wr.drew.cell? ⟨zb, zo + k, none⟩ = some (.int .i64 z) := c2
                obtain ⟨xa, xc, cL⟩ := HB2.out.drew.cellL
                refine Lex.region [5, 11, 15, 29, 35] [14, 10, 14] (by kernel_rfl) (by kernel_rfl) ?_
                refine Lex.opens (fun w' => w'.cell? ⟨zb, zo + k, none⟩ = some (.int .i64 z)) (cd) ?_
                repeat (first
                  | (refine Lex.skips (by rfl) ?_; (try simp only [Act.put, List.setIfInBounds_toArray, List.set_cons_zero, List.set_cons_succ]))
                  | (refine Lex.quiet (v := ?_) (by rfl) (by rfl) ?_ ?_; rotate_left; (focus (intro w' hS'; go_simp; try rfl)); (try simp only [Act.put, List.setIfInBounds_toArray, List.set_cons_zero, List.set_cons_succ])))
                refine Lex.loud (by rfl) (by rfl) ?_
                intro K' hK'
                go_simp
                refine (decide_both_no HB2.out.drew z HZv.out).mono ?_
                rintro e w2 ⟨rfl, rfl⟩
                refine hK' _ _ (cd) ?_
                clear hK'
                try simp only [Act.put, List.setIfInBounds_toArray, List.set_cons_zero, List.set_cons_succ]
                repeat (first
                  | (refine Lex.skips (by rfl) ?_; (try simp only [Act.put, List.setIfInBounds_toArray, List.set_cons_zero, List.set_cons_succ]))
                  | (refine Lex.quiet (v := ?_) (by rfl) (by rfl) ?_ ?_; rotate_left; (focus (intro w' hS'; go_simp; try rfl)); (try simp only [Act.put, List.setIfInBounds_toArray, List.set_cons_zero, List.set_cons_succ])))
                refine Lex.loud (by rfl) (by rfl) ?_
                intro K' hK'
                go_simp
                refine (refdecide_no _ _ z HZv.out).mono ?_
                rintro e w4 ⟨rfl, rfl⟩
                refine hK' _ _ (cd) ?_
                clear hK'
                try simp only [Act.put, List.setIfInBounds_toArray, List.set_cons_zero, List.set_cons_succ]
                repeat (first
                  | (refine Lex.skips (by rfl) ?_; (try simp only [Act.put, List.setIfInBounds_toArray, List.set_cons_zero, List.set_cons_succ]))
                  | (refine Lex.quiet (v := ?_) (by rfl) (by rfl) ?_ ?_; rotate_left; (focus (intro w' hS'; go_simp; try rfl)); (try simp only [Act.put, List.setIfInBounds_toArray, List.set_cons_zero, List.set_cons_succ])))
                refine Lex.done ?_
                refine Lex.opens (fun w' => w'.cell? ⟨br, 2, none⟩ = some (.slice xa L.length xc)) (cL) ?_
                repeat (first
                  | (refine Lex.skips (by rfl) ?_; (try simp only [Act.put, List.setIfInBounds_toArray, List.set_cons_zero, List.set_cons_succ]))
                  | (refine Lex.quiet (v := ?_) (by rfl) (by rfl) ?_ ?_; rotate_left; (focus (intro w' hS'; go_simp; try rfl)); (try simp only [Act.put, List.setIfInBounds_toArray, List.set_cons_zero, List.set_cons_succ])))
                refine Lex.loud (by rfl) (by rfl) ?_
                intro K' hK'
                go_simp
                refine (asked_both HB2.out.drew).mono ?_
                rintro e w5 ⟨rfl, rfl⟩
                refine hK' _ _ (cL) ?_
                clear hK'
                try simp only [Act.put, List.setIfInBounds_toArray, List.set_cons_zero, List.set_cons_succ]
                repeat (first
                  | (refine Lex.skips (by rfl) ?_; (try simp only [Act.put, List.setIfInBounds_toArray, List.set_cons_zero, List.set_cons_succ]))
                  | (refine Lex.quiet (v := ?_) (by rfl) (by rfl) ?_ ?_; rotate_left; (focus (intro w' hS'; go_simp; try rfl)); (try simp only [Act.put, List.setIfInBounds_toArray, List.set_cons_zero, List.set_cons_succ])))
                refine Lex.done ?_
                refine Lex.opens (fun w' => w'.cell? ⟨zb, zo + k, none⟩ = some (.int .i64 z)) (cd) ?_
                repeat (first
                  | (refine Lex.skips (by rfl) ?_; (try simp only [Act.put, List.setIfInBounds_toArray, List.set_cons_zero, List.set_cons_succ]))
                  | (refine Lex.quiet (v := ?_) (by rfl) (by rfl) ?_ ?_; rotate_left; (focus (intro w' hS'; go_simp; try rfl)); (try simp only [Act.put, List.setIfInBounds_toArray, List.set_cons_zero, List.set_cons_succ])))
                refine Lex.loud (by rfl) (by rfl) ?_
                intro K' hK'
                go_simp
                refine (count_both_no HB2.out.drew z HZv.out).mono ?_
                rintro e w5 ⟨rfl, rfl⟩
                refine hK' _ _ (cd) ?_
                clear hK'
                try simp only [Act.put, List.setIfInBounds_toArray, List.set_cons_zero, List.set_cons_succ]
                repeat (first
                  | (refine Lex.skips (by rfl) ?_; (try simp only [Act.put, List.setIfInBounds_toArray, List.set_cons_zero, List.set_cons_succ]))
                  | (refine Lex.quiet (v := ?_) (by rfl) (by rfl) ?_ ?_; rotate_left; (focus (intro w' hS'; go_simp; try rfl)); (try simp only [Act.put, List.setIfInBounds_toArray, List.set_cons_zero, List.set_cons_succ])))
                refine Lex.loud (by rfl) (by rfl) ?_
                intro K' hK'
                go_simp
                refine (refcount_both_no HB2.out.drew (by omega) HV.out z HZv.out).mono ?_
                rintro e w5 ⟨rfl, rfl⟩
                refine hK' _ _ (cd) ?_
                clear hK'
                try simp only [Act.put, List.setIfInBounds_toArray, List.set_cons_zero, List.set_cons_succ]
                repeat (first
                  | (refine Lex.skips (by rfl) ?_; (try simp only [Act.put, List.setIfInBounds_toArray, List.set_cons_zero, List.set_cons_succ]))
                  | (refine Lex.quiet (v := ?_) (by rfl) (by rfl) ?_ ?_; rotate_left; (focus (intro w' hS'; go_simp; try rfl)); (try simp only [Act.put, List.setIfInBounds_toArray, List.set_cons_zero, List.set_cons_succ])))
                refine Lex.done ?_
                refine Lex.ends ?_
                go_wp2_with fail
                go_roundw
                case rel => exact ⟨k + 1, by omega, by go_num, by rw [HS.out, vld_no _ _ HZv.out, hL]; exact HB2.out.drew⟩
                case measure => simp [intOf]; omega
            · clear hB HB
              go_wp2_with fail
              refine (awake_any _).mono ?_
              rintro e w2 ⟨rfl, r2⟩
              go_wp2_with fail
              go_ret
              exact ⟨rfl, HB2.out.fr.trans r2⟩

end Go.Proofs.Ytfiabeibiehlaaa

import Derived.Test.YtfiabeibiehlaaaU1
namespace Go.Proofs.Ytfiabeibiehlaaa
open Go.RowKit

attribute [local go_sem] Program.isFuncB Program.isSliceB

/-- what is answered to a question of any number -/
def ansz (scr : List Bool) (thr : Nat) (L : List Nat) (z : Int) : Bool := if 0 ≤ z ∧ z < 64 then pans scr thr L z.toNat else false
def ansl (scr : List Bool) (thr : Nat) : List Nat → List Int → List Bool
  | _, [] => []
  | L, z :: zs => ansz scr thr L z :: ansl scr thr (L ++ vld [z]) zs
theorem vld_app (a b : List Int) : vld (a ++ b) = vld a ++ vld b := by simp [vld, List.filter_append]
theorem ansl_len (scr : List Bool) (thr : Nat) : ∀ (zs : List Int) (L : List Nat), (ansl scr thr L zs).length = zs.length
  | [], _ => rfl
  | z :: zs, L => by simp [ansl, ansl_len scr thr zs]
theorem ansl_snoc (scr : List Bool) (thr : Nat) : ∀ (zs : List Int) (L : List Nat) (z : Int), ansl scr thr L (zs ++ [z]) = ansl scr thr L zs ++ [ansz scr thr (L ++ vld zs) z]
  | [], L, z => by simp [ansl, vld]
  | y :: zs, L, z => by
    simp only [List.cons_append, ansl, ansl_snoc scr thr zs]
    rw [show vld (y :: zs) = vld [y] ++ vld zs from vld_app [y] zs, List.append_assoc]
theorem ansl_at (scr : List Bool) (thr : Nat) : ∀ (zs : List Int) (L : List Nat) (k : Nat) (hk : k < zs.length), (ansl scr thr L zs)[k]? = some (ansz scr thr (L ++ vld (zs.take k)) zs[k])
  | z :: zs, L, 0, _ => by simp [ansl, vld]
  | z :: zs, L, k + 1, hk => by
    have := ansl_at scr thr zs (L ++ vld [z]) k (by simpa using hk)
    simp only [ansl, List.getElem?_cons_succ, this, List.take_succ_cons, List.getElem_cons_succ]
    rw [show vld (z :: zs.take k) = vld [z] ++ vld (zs.take k) from vld_app [z] _, List.append_assoc]

theorem decide_z {w : World} {scr : List Bool} {thr : Nat} {L : List Nat} {b ba bp : Nat} {sv : Value} (h : Pol w scr thr L b ba bp sv) (hL : L.length < 1000000) (z : Int) :
    Calls Try.prog 11 #[.pointer (some ⟨b, 0, none⟩), .int .i64 z] w fun e w' => e = .returned (.bool (ansz scr thr L z)) ∧ Pol w' scr thr (L ++ vld [z]) b ba bp sv ∧ Fr (only [b, ba]) w w' := by
  by_cases hv : 0 ≤ z ∧ z < 64
  · obtain ⟨f, rfl⟩ := Int.eq_ofNat_of_zero_le hv.1
    have hf : f < 64 := by omega
    have e1 : ansz scr thr L (f : Int) = pans scr thr L f := by unfold ansz; rw [if_pos hv]; rfl
    have e2 : vld [(f : Int)] = [f] := by have := vld_yes [] f hf; simpa [vld] using this
    rw [e1, e2]
    exact decide_pol h hL f hf
  · have e1 : ansz scr thr L z = false := by unfold ansz; rw [if_neg hv]
    have e2 : vld [z] = [] := by have := vld_no [] z (by omega); simpa [vld] using this
    rw [e1, e2, List.append_nil]
    refine (decide_pol_no h z (by omega)).mono ?_
    rintro e w' ⟨rfl, rfl⟩
    exact ⟨rfl, h, Fr.refl _ _⟩

/-- two policies of one script, the one asked L, the other M -/
structure Cop (W w : World) (scr : List Bool) (thr : Nat) (L M : List Nat) (s : Spot2) : Prop where
  one : Pol w scr thr L s.b s.ba s.bp s.sv
  two : Pol w scr thr M s.c s.ca s.cp s.cv
  fr : Fr no W w
  new1 : W.heap.size ≤ s.b ∧ W.heap.size ≤ s.ba
  new2 : W.heap.size ≤ s.c ∧ W.heap.size ≤ s.ca
  ap1 : s.c ≠ s.b ∧ s.c ≠ s.ba ∧ s.ca ≠ s.b ∧ s.ca ≠ s.ba ∧ s.cp ≠ s.b ∧ s.cp ≠ s.ba ∧ s.bp ≠ s.c ∧ s.bp ≠ s.ca
  ap2 : ∀ k, s.cv.ownBlock = some k → k ≠ s.b ∧ k ≠ s.ba
  ap3 : ∀ k, s.sv.ownBlock = some k → k ≠ s.c ∧ k ≠ s.ca

variable {W w : World} {scr : List Bool} {thr : Nat} {L M : List Nat} {s : Spot2}

theorem Cop.fr1 {w' : World} {S : Nat → Prop} (h : Cop W w scr thr L M s) (hf : Fr S w w')
    (hS : ∀ k, S k → W.heap.size ≤ k ∧ k ≠ s.b ∧ k ≠ s.ba ∧ k ≠ s.bp ∧ k ≠ s.c ∧ k ≠ s.ca ∧ k ≠ s.cp ∧ (∀ j, s.sv.ownBlock = some j → k ≠ j) ∧ (∀ j, s.cv.ownBlock = some j → k ≠ j)) : Cop W w' scr thr L M s := by
  refine ⟨h.one.fr hf ?_ ?_ ?_ ?_, h.two.fr hf ?_ ?_ ?_ ?_, h.fr.trans' hf fun i hi _ => (hS i hi).1, h.new1, h.new2, h.ap1, h.ap2, h.ap3⟩
  · intro m; exact (hS _ m).2.1 rfl
  · intro m; exact (hS _ m).2.2.1 rfl
  · intro m; exact (hS _ m).2.2.2.1 rfl
  · intro k hk m; exact (hS _ m).2.2.2.2.2.2.2.1 k hk rfl
  · intro m; exact (hS _ m).2.2.2.2.1 rfl
  · intro m; exact (hS _ m).2.2.2.2.2.1 rfl
  · intro m; exact (hS _ m).2.2.2.2.2.2.1 rfl
  · intro k hk m; exact (hS _ m).2.2.2.2.2.2.2.2 k hk rfl

theorem Cop.drew (h : Cop W w scr thr L M s) : Cop W w.drew scr thr L M s := h.fr1 ((Fr.refl no w).drew) (fun k hk => hk.elim)

theorem decide_c1 (h : Cop W w scr thr L M s) (hL : L.length < 1000) (z : Int) :
    Calls Try.prog 11 #[.pointer (some ⟨s.b, 0, none⟩), .int .i64 z] w fun e w' => e = .returned (.bool (ansz scr thr L z)) ∧ Cop W w' scr thr (L ++ vld [z]) M s ∧ Fr (only [s.b, s.ba]) w w' := by
  refine (decide_z h.one (by omega) z).mono ?_
  rintro e w' ⟨rfl, h1, r1⟩
  have a1 := h.ap1
  have n1 := h.new1
  refine ⟨rfl, ⟨h1, h.two.fr r1 ?_ ?_ ?_ ?_, h.fr.trans' r1 (by simp; omega), h.new1, h.new2, h.ap1, h.ap2, h.ap3⟩, r1⟩
  · simp; omega
  · simp; omega
  · simp; omega
  · intro k hk; have := h.ap2 k hk; simp; omega

theorem decide_c2 (h : Cop W w scr thr L M s) (hM : M.length < 1000) (z : Int) :
    Calls Try.prog 11 #[.pointer (some ⟨s.c, 0, none⟩), .int .i64 z] w fun e w' => e = .returned (.bool (ansz scr thr M z)) ∧ Cop W w' scr thr L (M ++ vld [z]) s ∧ Fr (only [s.c, s.ca]) w w' := by
  refine (decide_z h.two (by omega) z).mono ?_
  rintro e w' ⟨rfl, h1, r1⟩
  have a1 := h.ap1
  have n1 := h.new2
  refine ⟨rfl, ⟨h.one.fr r1 ?_ ?_ ?_ ?_, h1, h.fr.trans' r1 (by simp; omega), h.new1, h.new2, h.ap1, h.ap2, h.ap3⟩, r1⟩
  · simp; omega
  · simp; omega
  · simp; omega
  · intro k hk; have := h.ap3 k hk; simp; omega

theorem Pol.lt {w : World} {scr : List Bool} {thr : Nat} {L : List Nat} {b ba bp : Nat} {sv : Value} (h : Pol w scr thr L b ba bp sv) : b < w.heap.size ∧ ba < w.heap.size ∧ bp < w.heap.size := by
  obtain ⟨n, h, _⟩ := h
  exact ⟨(Array.getElem?_eq_some_iff.1 h.blk.choose_spec).1, (Array.getElem?_eq_some_iff.1 h.at_).1, (Array.getElem?_eq_some_iff.1 h.self).1⟩

set_option maxRecDepth 100000 in
set_option maxHeartbeats 4000000 in
theorem copies_any (w : World) (sv : Value) (zs : List Bool) (hz : Reads w sv 1 zs.length (zs.map .bool)) (hzs : zs.length ≤ 140737488355328) (t : Int)
    (av : Value) (al : List Int) (ha : Reads w av 1 al.length (al.map (.int .i64))) (lv : Value) (l : List Int) (hl : Reads w lv 1 l.length (l.map (.int .i64))) :
    Calls Try.prog 7 #[sv, .int .i64 t, av, lv] w fun e w' => e = .returned (.bool true) ∧ Fr no w w' := by
  obtain ⟨sa, sc, rfl⟩ := hz.shape
  obtain ⟨la, lc, rfl⟩ := hl.shape
  obtain ⟨aa, ac, rfl⟩ := ha.shape
  have HL := Lib.hid hl
  have HZ := Lib.hid hz
  have HA := Lib.hid ha
  clear hl hz ha
  by_cases ht : t < 0 ∨ 2147483647 < t
  · go_enter Try.func7, Try.ntmps7
    go_wp2_with fail
    refine (awake_any _).mono ?_
    rintro e w0 ⟨rfl, r0⟩
    go_wp2_with fail
    refine (new_no _ _ t ht).mono ?_
    rintro e w' ⟨rfl, rfl⟩
    go_wp2_with fail
    go_ret
    exact ⟨rfl, r0⟩
  · obtain ⟨tn, rfl⟩ := Int.eq_ofNat_of_zero_le (show 0 ≤ t by omega)
    have htn : tn ≤ 2147483647 := by omega
    clear ht
    go_enter Try.func7, Try.ntmps7
    go_wp2_with fail
    refine (awake_any _).mono ?_
    rintro e w0 ⟨rfl, r0⟩
    go_wp2_with fail
    refine (new_yes _ _ _ (HZ.out.fr r0 (by simp)) hzs tn htn).mono ?_
    rintro e w1 ⟨b, ba, bp, pv, rfl, h1, r1, k1, k2, k3, k4⟩
    by_cases g1 : 100 < zs.length
    · go_wp2_with fail
      go_ret
      exact ⟨rfl, r0.trans r1⟩
    by_cases g2 : 100 < al.length
    · go_wp2_with fail
      go_ret
      exact ⟨rfl, r0.trans r1⟩
    by_cases g3 : 100 < l.length
    · go_wp2_with fail
      go_ret
      exact ⟨rfl, r0.trans r1⟩
    have g1 : zs.length ≤ 100 := by omega
    have g2 : al.length ≤ 100 := by omega
    have g3 : l.length ≤ 100 := by omega
    have R1 := Lib.hid (r0.trans r1)
    have H1 := Lib.hid h1
    have q0 := r0.size
    have K := Lib.hid (show w.heap.size ≤ b ∧ w.heap.size ≤ ba ∧ b < w1.heap.size ∧ ba < w1.heap.size ∧ bp < w1.heap.size ∧ (∀ k, pv.ownBlock = some k → k < w1.heap.size) from
      ⟨by omega, by omega, h1.lt.1, h1.lt.2.1, h1.lt.2.2, fun k hk => (k4 k hk).2⟩)
    clear r0 r1 h1 k1 k2 k3 k4 q0
    go_wp2_with fail
    go_loopw [12] (fun i wr => ∃ k : Nat, k ≤ al.length ∧ i = .int .i64 k ∧ Pol wr zs tn (vld (al.take k)) b ba bp pv ∧ Fr no w wr ∧ w1.heap.size ≤ wr.heap.size) (fun i _ => al.length - (intOf i).toNat)
    case atStart => exact ⟨0, by omega, rfl, H1.out, R1.out, Nat.le_refl _⟩
    case round =>
      obtain ⟨k, hk, rfl, hB, hR, hsz⟩ := hrel
      have HB := Lib.hid hB
      have HR := Lib.hid hR
      by_cases hlt : k < al.length
      · obtain ⟨zb, zo, rfl, c2⟩ := (HA.out.fr hR (by simp)).at1 (k := k) (u := .int .i64 al[k]) (by simp [hlt])
        have HS : Hid (vld (al.take (k + 1)) = vld (al.take k) ++ vld [al[k]]) := by unfold Hid; rw [List.take_succ_eq_append_getElem hlt, vld_app]
        have hLn : (vld (al.take k)).length < 1000000 := by have := vld_len (al.take k); simp at this; omega
        clear hB hR
        have hlt' : (k : Int) < al.length := by omega
        go_wp2_with fail
        refine (decide_z HB.out hLn _).mono ?_
        rintro e w2 ⟨rfl, h2, r2⟩
        go_wp2_with fail
        go_roundw
        case rel =>
          obtain ⟨x1, x2, _⟩ := K.out
          exact ⟨k + 1, by omega, by go_num, by rw [HS.out]; exact h2, HR.out.trans' r2 (by simp; omega), Nat.le_trans hsz r2.size⟩
        case measure => simp [intOf]; omega
      · clear hB hR
        go_wp2_with fail
        have hLn : (vld (al.take k)).length ≤ 100 := by have := vld_len (al.take k); simp at this; omega
        generalize vld (al.take k) = L0 at *
        refine (copy_any _ zs tn L0 b ba bp pv HB.out hzs (by omega)).mono ?_
        rintro e w3 ⟨c, ca, cp, cv, rfl, h3, r3, k1, k2, k3, k4⟩
        have h4 : Cop w w3 zs tn L0 L0 ⟨b, ba, bp, pv, c, ca, cp, cv⟩ := by
          obtain ⟨x1, x2, x3, x4, x5, x6⟩ := K.out
          have := HR.out.size
          refine ⟨HB.out.fr r3 (by simp) (by simp) (by simp) (by simp), h3, HR.out.trans r3, ?_, ?_, ?_, ?_, ?_⟩
          · exact ⟨x1, x2⟩
          · dsimp only; omega
          · dsimp only; omega
          · dsimp only; intro j hj; have := (k4 j hj).1; omega
          · dsimp only; intro j hj; have := x6 j hj; omega
        have H4 := Lib.hid h4
        have HN : Hid (∀ g, w3.heap.size ≤ g → w.heap.size ≤ g ∧ g ≠ b ∧ g ≠ ba ∧ g ≠ bp ∧ g ≠ c ∧ g ≠ ca ∧ g ≠ cp ∧ (∀ j, pv.ownBlock = some j → g ≠ j) ∧ (∀ j, cv.ownBlock = some j → g ≠ j)) := by
          intro g hg
          have y1 := h4.one.lt
          have y2 := h4.two.lt
          have y3 := h4.fr.size
          have y4 := r3.size
          obtain ⟨x1, x2, x3, x4, x5, x6⟩ := K.out
          dsimp only at y1 y2
          refine ⟨by omega, by omega, by omega, by omega, by omega, by omega, by omega, fun j hj => ?_, fun j hj => ?_⟩
          · have := x6 j hj; omega
          · have := (k4 j hj).2; omega
        clear h3 r3 k1 k2 k3 k4 h4 HB HR K H1 R1 hk hlt
        go_wp2_with fail
        refine (asked_pol H4.out.one).mono ?_
        rintro e w' ⟨rfl, rfl⟩
        go_wp2_with fail
        generalize hB3 : w3.heap.size = B3 at *
        have hBle : B3 ≤ w3.heap.size := by omega
        clear hB3
        go_loopw [14, 16] (fun fv i wr => ∃ k : Nat, k ≤ l.length ∧ i = .int .i64 k ∧ Cop w wr zs tn L0 (L0 ++ vld (l.take k)) ⟨b, ba, bp, pv, c, ca, cp, cv⟩ ∧ B3 ≤ wr.heap.size ∧
            wr.ownsRow B3 4 1 fv k ((ansl zs tn L0 (l.take k)).map .bool)) (fun _ i _ => l.length - (intOf i).toNat)
        case atStart => exact ⟨0, by omega, rfl, by simpa [vld] using H4.out, hBle, World.ownsRow_nil _ _ _ _⟩
        case round =>
          obtain ⟨k, hk, rfl, hB, hsz, hown⟩ := hrel
          have HB := Lib.hid hB
          obtain ⟨fa, fc, rfl⟩ := owns_shape hown
          have HO := Lib.hid hown
          by_cases hlt : k < l.length
          · obtain ⟨zb, zo, rfl, c2⟩ := (HL.out.fr hB.fr (by simp)).at1 (k := k) (u := .int .i64 l[k]) (by simp [hlt])
            have HS : Hid (L0 ++ vld (l.take (k + 1)) = L0 ++ vld (l.take k) ++ vld [l[k]]) := by unfold Hid; rw [List.take_succ_eq_append_getElem hlt, vld_app, List.append_assoc]
            have HS2 : Hid ((ansl zs tn L0 (l.take k)).map Value.bool ++ [.bool (ansz zs tn (L0 ++ vld (l.take k)) l[k])] = (ansl zs tn L0 (l.take (k + 1))).map Value.bool) := by
              unfold Hid; rw [List.take_succ_eq_append_getElem hlt, ansl_snoc]; simp
            have hLn : (L0 ++ vld (l.take k)).length < 1000 := by have := vld_len (l.take k); simp at this; simp; omega
            clear hB hown
            have hlt' : (k : Int) < l.length := by omega
            go_wp2_with fail
            refine (decide_c2 HB.out hLn _).mono ?_
            rintro e w5 ⟨rfl, h5, r5⟩
            generalize ansz zs tn (L0 ++ vld (l.take k)) l[k] = A at *
            have hs5 := r5.size
            have ho5 : w5.ownsRow B3 4 1 (.slice fa k fc) k _ := owns_fr HO.out r5 (fun j hj => by
              have := HN.out j (HO.out.lt j hj).1; simp; omega)
            have HO5 := Lib.hid (ho5.alloc (.cells #[.bool A] 4))
            have H5 := Lib.hid h5
            clear ho5 h5
            go_wp2_with (at_builtin; refine wpList_append_any rfl _ _ 22 rfl B3 4 (.bool false) 1 1 Try.underlying22 Try.info4 rfl (by decide) _ k _ rfl HO5.out 1 [.bool A] (reads_one _ _ _) (by intro u hu; simp only [List.mem_singleton] at hu; subst hu; rfl) (by unfold maxLen; omega) (by omega) (by simp; omega) ?_; intro a' c' w6 hown' hgrow)
            have r6 : Fr (onlyFrom [] B3) w5 w6 := ((Fr.refl _ w5).alloc _).grown hgrow (fun j hj => .inl (by have := (HO.out.lt j hj).1; simp; omega))
            rw [HS2.out] at hown'
            go_roundw
            case rel =>
              refine ⟨k + 1, by omega, by go_num, ?_, ?_, ?_⟩
              · rw [HS.out]
                exact H5.out.fr1 r6 (fun g hg => HN.out g (by simpa using hg))
              · have := r6.size; omega
              · exact hown'
            case measure => simp [intOf]; omega
          · obtain rfl : k = l.length := by omega
            clear hB hown H4
            have e0 : l.take l.length = l := List.take_length
            rw [e0] at HB HO
            clear e0
            go_wp2_with fail
            refine (asked_pol HB.out.one).mono ?_
            rintro e w' ⟨rfl, rfl⟩
            go_wp2_with fail
            have HD := Lib.hid hsz
            clear hsz
            go_loopw [18] (fun i wr => ∃ k : Nat, k ≤ l.length ∧ i = .int .i64 k ∧ Cop w wr zs tn (L0 ++ vld (l.take k)) (L0 ++ vld l) ⟨b, ba, bp, pv, c, ca, cp, cv⟩ ∧
                wr.ownsRow B3 4 1 (.slice fa l.length fc) l.length ((ansl zs tn L0 l).map .bool)) (fun i _ => l.length - (intOf i).toNat)
            case atStart => exact ⟨0, by omega, rfl, by simpa [vld] using HB.out, HO.out⟩
            case round =>
              obtain ⟨k, hk, rfl, hB, hown⟩ := hrel
              clear HB HO
              have HB := Lib.hid hB
              have HO := Lib.hid hown
              by_cases hlt : k < l.length
              · obtain ⟨zb, zo, rfl, c2⟩ := (HL.out.fr hB.fr (by simp)).at1 (k := k) (u := .int .i64 l[k]) (by simp [hlt])
                have hzb : zb < w.heap.size := by
                  obtain ⟨b', o', e1, e2⟩ := HL.out.at1 (k := k) (u := .int .i64 l[k]) (by simp [hlt])
                  cases e1
                  exact World.block_lt_of_cell? _ _ e2
                obtain ⟨fb, fo, rfl, c3⟩ := (owns_reads hown).at1 (k := k) (u := .bool (ansz zs tn (L0 ++ vld (l.take k)) l[k])) (by rw [List.getElem?_map, ansl_at zs tn l L0 k hlt]; rfl)
                have HS : Hid (L0 ++ vld (l.take (k + 1)) = L0 ++ vld (l.take k) ++ vld [l[k]]) := by unfold Hid; rw [List.take_succ_eq_append_getElem hlt, vld_app, List.append_assoc]
                have hLn : (L0 ++ vld (l.take k)).length < 1000 := by have := vld_len (l.take k); simp at this; simp; omega
                clear hB hown
                have hlt' : (k : Int) < l.length := by omega
                go_wp2_with fail
                have d2 : wr.drew.cell? ⟨zb, zo + k, none⟩ = some (.int .i64 l[k]) := c2
                have d3 : wr.drew.cell? ⟨fb, fo + k, none⟩ = some (.bool (ansz zs tn (L0 ++ vld (l.take k)) l[k])) := c3
                have HC := Lib.hid (decide_c1 HB.out.drew hLn l[k])
                have HF : Hid (∀ w5, Fr (only [b, ba]) wr.drew w5 → w5.ownsRow B3 4 1 (.slice (some ⟨fb, fo, none⟩) l.length fc) l.length ((ansl zs tn L0 l).map .bool)) := by
                  intro w5 r5
                  exact owns_fr (HO.out.drew) r5 (fun j hj => by have := HN.out j (HO.out.lt j hj).1; simp; omega)
                have hfb := HN.out fb (HO.out.lt fb rfl).1
                have hK : w.heap.size ≤ b ∧ w.heap.size ≤ ba := HB.out.new1
                generalize ansz zs tn (L0 ++ vld (l.take k)) l[k] = A at *
                generalize l[k] = z at *
                refine Lex.region [5] [11] (by kernel_rfl) (by kernel_rfl) ?_
                refine Lex.opens (fun w' => w'.cell? ⟨zb, zo + k, none⟩ = some (.int .i64 z) ∧ w'.cell? ⟨fb, fo + k, none⟩ = some (.bool A)) (⟨d2, d3⟩) ?_
                repeat (first
                  | (refine Lex.skips (by rfl) ?_; (try simp only [Act.put, List.setIfInBounds_toArray, List.set_cons_zero, List.set_cons_succ]))
                  | (refine Lex.quiet (v := ?_) (by rfl) (by rfl) ?_ ?_; rotate_left; (focus (intro w' hS'; go_simp; try rfl)); (try simp only [Act.put, List.setIfInBounds_toArray, List.set_cons_zero, List.set_cons_succ])))
                refine Lex.loud (by rfl) (by rfl) ?_
                intro K' hK'
                go_simp
                refine HC.out.mono ?_
                rintro e w5 ⟨rfl, h5, r5⟩
                have H5 := Lib.hid h5
                clear h5
                refine hK' _ _ (⟨r5.cell d2 (by simp; omega), r5.cell d3 (by simp; omega)⟩) ?_
                clear hK'
                try simp only [Act.put, List.setIfInBounds_toArray, List.set_cons_zero, List.set_cons_succ]
                repeat (first
                  | (refine Lex.skips (by rfl) ?_; (try simp only [Act.put, List.setIfInBounds_toArray, List.set_cons_zero, List.set_cons_succ]))
                  | (refine Lex.quiet (v := ?_) (by rfl) (by rfl) ?_ ?_; rotate_left; (focus (intro w' hS'; go_simp; try rfl)); (try simp only [Act.put, List.setIfInBounds_toArray, List.set_cons_zero, List.set_cons_succ])))
                refine Lex.done ?_
                refine Lex.ends ?_
                go_wp2_with fail
                go_roundw
                case rel => exact ⟨k + 1, by omega, by go_num, by rw [HS.out]; exact H5.out, HF.out _ r5⟩
                case measure => simp [intOf]; omega
              · obtain rfl : k = l.length := by omega
                have e0 : l.take l.length = l := List.take_length
                rw [e0] at HB
                clear hB hown e0
                generalize L0 ++ vld l = M at *
                go_wp2_with fail
                refine (asked_pol HB.out.one).mono ?_
                rintro e w' ⟨rfl, rfl⟩
                go_wp2_with fail
                refine (asked_pol HB.out.two).mono ?_
                rintro e w' ⟨rfl, rfl⟩
                go_wp2_with fail
                go_ret
                exact ⟨rfl, HB.out.fr⟩

end Go.Proofs.Ytfiabeibiehlaaa

/- container/heap's down, Push and Pop. -/
import Derived.Test.YtofahdjnejodjaaGreatS3
set_option linter.unusedSimpArgs false
set_option linter.unusedVariables false
set_option linter.unusedSectionVars false
set_option linter.unnecessarySimpa false
namespace Go.Proofs.YtofahdjnejodjaaGreat
open Go.RowKit Go.Flow

attribute [local go_sem] Program.isFuncB Program.isSliceB

variable {w w' w'' w0 : World}

/-- it comes back, with whatever -/
def RB (e : Ending) : Prop := ∃ v, e = .returned v
theorem RB.mk (v : Value) : RB (.returned v) := ⟨v, rfl⟩

set_option maxRecDepth 100000 in
set_option maxHeartbeats 8000000 in
theorem hdown_ok (w : World) (B sb : Nat) (st : List Nat) (n : Nat) (h : QAt w B sb st) (hn : n ≤ st.length) (hl : st.length ≤ 100000) :
    Calls Tryz.prog 70 #[hI sb, .int .i64 0, .int .i64 n] w fun e w' => RB e ∧ ∃ st', QKept w B sb st st' w' := by
  have H0 := Lib.hid (QKept.refl h)
  clear h
  unfold hI
  go_enter Tryz.func70, Tryz.ntmps70
  go_wp2_with fail
  go_loopw [7] (fun x wr => ∃ (i : Nat) (l : List Nat), x = .int .i64 i ∧ Hid (i ≤ st.length) ∧ Hid (QKept w B sb st l wr)) (fun x _ => st.length - nOf x)
  case atStart => exact ⟨0, st, rfl, Lib.hid (by omega), H0⟩
  case round =>
    obtain ⟨i, l, rfl, hjl, HK1⟩ := hrel
    have hll1 : l.length ≤ st.length := by rw [HK1.out.len]; exact Nat.le_refl _
    have hll2 : st.length ≤ l.length := by rw [HK1.out.len]; exact Nat.le_refl _
    have hjl' := hjl.out
    obtain ⟨xv, hx1, hx2, hx3⟩ := HK1.out.q.at'
    obtain ⟨xa, xc, rfl⟩ := owns_shape hx2
    have c1 : wr.cell? ⟨sb, 0, none⟩ = some (.slice xa l.length xc) := cell_of_heap hx1 rfl
    have HX11 := Lib.hid hx1
    have HX21 := Lib.hid hx2
    have HX3 := Lib.hid hx3
    have hM1 := hm_less 292 (by kernel_rfl) wr sb _ _ _ c1
    clear hx1 hx2 hx3 H0 hjl
    obtain ⟨j, hj0⟩ : ∃ j, j = 2 * i + 1 := ⟨_, rfl⟩
    have ej : 2 * (i : Int) + 1 = j := by omega
    have ej2 : ¬ ((j : Int) < 0) := by omega
    by_cases hb : n ≤ j
    · have hb' : (n : Int) ≤ j := by omega
      clear hj0
      go_wp2_with fail
      go_ret
      exact ⟨RB.mk _, l, HK1.out⟩
    · have hb' : ¬ (n : Int) ≤ j := by omega
      have hi : i < l.length := by omega
      have hj : j < l.length := by omega
      have hij : i < j := by omega
      clear hb hj0
      obtain ⟨k, hk0⟩ : ∃ k, k = j + 1 := ⟨_, rfl⟩
      have ek : (j : Int) + 1 = k := by omega
      by_cases hkn : k < n
      · have hkn' : (k : Int) < n := by omega
        have hk : k < l.length := by omega
        have hik : i < k := by omega
        clear hk0
        go_wp2_with fail
        refine (wless_ok wr xa xc l k j (owns_reads HX21.out) hk hj).mono ?_
        rintro e w4 ⟨rfl, q, rfl⟩
        have HK4 := Lib.hid (HK1.out.drawn q)
        have HX14 := Lib.hid (((Fr.refl no wr).drewN q).heap HX11.out (by simp))
        have HX24 := Lib.hid (owns_fr HX21.out ((Fr.refl no wr).drewN q) (fun k hk => by simp))
        have c4 : (wr.drewN q).cell? ⟨sb, 0, none⟩ = some (.slice xa l.length xc) := cell_of_heap HX14.out rfl
        have hM4 := hm_less 292 (by kernel_rfl) (wr.drewN q) sb _ _ _ c4
        clear HK1 HX11 HX21 hM1 c1
        generalize wr.drewN q = w4 at *
        generalize decide (l[k] < l[j]) = b4 at *
        cases b4
        · go_wp2_with fail
          refine (wless_ok w4 xa xc l j i (owns_reads HX24.out) hj hi).mono ?_
          rintro e w2 ⟨rfl, q, rfl⟩
          have HKq := Lib.hid (HK4.out.drawn q)
          have HX1q := Lib.hid (((Fr.refl no w4).drewN q).heap HX14.out (by simp))
          have HX2q := Lib.hid (owns_fr HX24.out ((Fr.refl no w4).drewN q) (fun k hk => by simp))
          have c2 : (w4.drewN q).cell? ⟨sb, 0, none⟩ = some (.slice xa l.length xc) := cell_of_heap HX1q.out rfl
          have hM2 := hm_swap 292 (by kernel_rfl) (w4.drewN q) sb _ _ _ c2
          clear HK4 HX14 HX24 hM4 c4
          generalize w4.drewN q = w2 at *
          generalize decide (l[j] < l[i]) = bb at *
          cases bb
          · go_wp2_with fail
            go_ret
            exact ⟨RB.mk _, l, HKq.out⟩
          · go_wp2_with fail
            refine (wswap_ok w2 B xa xc l i j HX2q.out hi hj).mono ?_
            rintro e w3 ⟨rfl, o3, r3⟩
            have HK3 := Lib.hid (HKq.out.swap HX1q.out HX3.out hi hj o3 r3 HX2q.out)
            have HJ3 : Hid ( j ≤ st.length) := Lib.hid (by omega)
            clear o3 r3 HX1q HX2q HX3 hM2 c2 HKq
            go_wp2_with fail
            go_roundw
            case rel => exact ⟨j, _, rfl, HJ3, HK3⟩
            case measure => simp [nOf]; omega
        · go_wp2_with fail
          refine (wless_ok w4 xa xc l k i (owns_reads HX24.out) hk hi).mono ?_
          rintro e w2 ⟨rfl, q, rfl⟩
          have HKq := Lib.hid (HK4.out.drawn q)
          have HX1q := Lib.hid (((Fr.refl no w4).drewN q).heap HX14.out (by simp))
          have HX2q := Lib.hid (owns_fr HX24.out ((Fr.refl no w4).drewN q) (fun k hk => by simp))
          have c2 : (w4.drewN q).cell? ⟨sb, 0, none⟩ = some (.slice xa l.length xc) := cell_of_heap HX1q.out rfl
          have hM2 := hm_swap 292 (by kernel_rfl) (w4.drewN q) sb _ _ _ c2
          clear HK4 HX14 HX24 hM4 c4
          generalize w4.drewN q = w2 at *
          generalize decide (l[k] < l[i]) = bb at *
          cases bb
          · go_wp2_with fail
            go_ret
            exact ⟨RB.mk _, l, HKq.out⟩
          · go_wp2_with fail
            refine (wswap_ok w2 B xa xc l i k HX2q.out hi hk).mono ?_
            rintro e w3 ⟨rfl, o3, r3⟩
            have HK3 := Lib.hid (HKq.out.swap HX1q.out HX3.out hi hk o3 r3 HX2q.out)
            have HJ3 : Hid ( k ≤ st.length) := Lib.hid (by omega)
            clear o3 r3 HX1q HX2q HX3 hM2 c2 HKq
            go_wp2_with fail
            go_roundw
            case rel => exact ⟨k, _, rfl, HJ3, HK3⟩
            case measure => simp [nOf]; omega
      · have hkn' : ¬ (k : Int) < n := by omega
        clear hk0
        go_wp2_with fail
        refine (wless_ok wr xa xc l j i (owns_reads HX21.out) hj hi).mono ?_
        rintro e w2 ⟨rfl, q, rfl⟩
        have HKq := Lib.hid (HK1.out.drawn q)
        have HX1q := Lib.hid (((Fr.refl no wr).drewN q).heap HX11.out (by simp))
        have HX2q := Lib.hid (owns_fr HX21.out ((Fr.refl no wr).drewN q) (fun k hk => by simp))
        have c2 : (wr.drewN q).cell? ⟨sb, 0, none⟩ = some (.slice xa l.length xc) := cell_of_heap HX1q.out rfl
        have hM2 := hm_swap 292 (by kernel_rfl) (wr.drewN q) sb _ _ _ c2
        clear HK1 HX11 HX21 hM1 c1
        generalize wr.drewN q = w2 at *
        generalize decide (l[j] < l[i]) = bb at *
        cases bb
        · go_wp2_with fail
          go_ret
          exact ⟨RB.mk _, l, HKq.out⟩
        · go_wp2_with fail
          refine (wswap_ok w2 B xa xc l i j HX2q.out hi hj).mono ?_
          rintro e w3 ⟨rfl, o3, r3⟩
          have HK3 := Lib.hid (HKq.out.swap HX1q.out HX3.out hi hj o3 r3 HX2q.out)
          have HJ3 : Hid ( j ≤ st.length) := Lib.hid (by omega)
          clear o3 r3 HX1q HX2q HX3 hM2 c2 HKq
          go_wp2_with fail
          go_roundw
          case rel => exact ⟨j, _, rfl, HJ3, HK3⟩
          case measure => simp [nOf]; omega

set_option maxRecDepth 100000 in
set_option maxHeartbeats 8000000 in
theorem hpush_ok (w : World) (B sb : Nat) (st : List Nat) (i : Nat) (h : QAt w B sb st) (hB : B ≤ w.heap.size) (hs : B ≤ sb) (hl : st.length ≤ 10000) :
    Calls Tryz.prog 42 #[hI sb, numI i] w fun e w' => RB e ∧ ∃ st', QAt w' B sb st' ∧ st'.length = st.length + 1 ∧ (∀ x, x ∈ st' ↔ x = i ∨ x ∈ st) ∧ Fr (fun k => B ≤ k) w w' := by
  go_enter Tryz.func42, Tryz.ntmps42
  unfold hI
  go_wp2_with fail
  refine (wpush_ok w B sb st i h hB (by omega)).mono ?_
  rintro e w1 ⟨rfl, q1, r1⟩
  have R1 := Lib.hid (r1.mono (T := fun k => B ≤ k) (fun k hk _ => by rcases hk with rfl | ⟨h1, _⟩ <;> assumption))
  have HQ1 := Lib.hid q1
  obtain ⟨l, hl0⟩ : ∃ l, l = st ++ [i] := ⟨_, rfl⟩
  have hll : l.length = st.length + 1 := by rw [hl0]; simp
  rw [← hl0] at HQ1
  have HM : Hid (∀ x, x ∈ l ↔ x = i ∨ x ∈ st) := Lib.hid (fun x => by rw [hl0]; simp [or_comm])
  have HLL := Lib.hid hll
  have hpos : 0 < l.length := by omega
  have hlm : l.length ≤ 100000 := by omega
  clear h q1 r1 hl0 hll
  obtain ⟨x, hx1, hx2, hx3⟩ := HQ1.out.at'
  obtain ⟨xa, xc, rfl⟩ := owns_shape hx2
  have c1 : w1.cell? ⟨sb, 0, none⟩ = some (.slice xa l.length xc) := cell_of_heap hx1 rfl
  have hM := hm_len 292 (by kernel_rfl) w1 sb _ _ _ c1
  clear hx1 hx2 hx3
  go_wp2_with fail
  refine (wlen_ok w1 xa l.length xc).mono ?_
  rintro e w2 ⟨rfl, rfl⟩
  obtain ⟨j, hj⟩ : ∃ j, j + 1 = l.length := ⟨l.length - 1, by omega⟩
  have ej : (l.length : Int) - 1 = j := by omega
  have hjl : j < l.length := by omega
  clear hj hM c1
  go_wp2_with fail
  refine (hup_ok w1 B sb l j HQ1.out hjl hlm).mono ?_
  rintro e w3 ⟨rfl, l3, k3⟩
  have HK3 := Lib.hid k3
  clear k3
  go_wp2_with fail
  exact ⟨rfl, .tuple #[], by simp [results], RB.mk _, l3, HK3.out.q, HK3.out.len.trans HLL.out, fun x => (HK3.out.mem x).trans (HM.out x), R1.out.trans HK3.out.fr⟩

set_option maxRecDepth 100000 in
set_option maxHeartbeats 8000000 in
theorem hpop_ok (w : World) (B sb : Nat) (st : List Nat) (h : QAt w B sb st) (hs : B ≤ sb) (hpos : 0 < st.length) (hl : st.length ≤ 10000) :
    Calls Tryz.prog 38 #[hI sb] w fun e w' => ∃ (i : Nat) (st' : List Nat), e = .returned (numI i) ∧ QAt w' B sb st' ∧ st'.length + 1 = st.length ∧ (∀ x, x ∈ st ↔ x = i ∨ x ∈ st') ∧ Fr (fun k => B ≤ k) w w' := by
  have HQ := Lib.hid h
  go_enter Tryz.func38, Tryz.ntmps38
  unfold hI
  obtain ⟨x, hx1, hx2, hx3⟩ := h.at'
  obtain ⟨xa, xc, rfl⟩ := owns_shape hx2
  have c1 : w.cell? ⟨sb, 0, none⟩ = some (.slice xa st.length xc) := cell_of_heap hx1 rfl
  have hM := hm_len 292 (by kernel_rfl) w sb _ _ _ c1
  have hM2 := hm_swap 292 (by kernel_rfl) w sb _ _ _ c1
  have HX1 := Lib.hid hx1
  have HX2 := Lib.hid hx2
  have HX3 := Lib.hid hx3
  clear hx1 hx2 hx3 h
  go_wp2_with fail
  refine (wlen_ok w xa st.length xc).mono ?_
  rintro e w2 ⟨rfl, rfl⟩
  obtain ⟨j, hj⟩ : ∃ j, j + 1 = st.length := ⟨st.length - 1, by omega⟩
  have ej : (st.length : Int) - 1 = j := by omega
  have hjl : j < st.length := by omega
  have HJ := Lib.hid hj
  clear hj hM c1
  go_wp2_with fail
  refine (wswap_ok w B xa xc st 0 j HX2.out hpos hjl).mono ?_
  rintro e w3 ⟨rfl, o3, r3⟩
  have HK3 := Lib.hid ((QKept.refl HQ.out).swap HX1.out HX3.out hpos hjl o3 r3 HX2.out)
  clear o3 r3 HX1 HX2 HX3 hM2
  obtain ⟨l, hl0⟩ : ∃ l, l = swapL st 0 j := ⟨_, rfl⟩
  have hll : l.length = st.length := by rw [hl0, swapL_len]
  rw [← hl0] at HK3
  have h1 : j ≤ l.length := by omega
  have h2 : l.length ≤ 100000 := by omega
  have HLL := Lib.hid hll
  clear hl0 hll
  go_wp2_with fail
  refine (hdown_ok w3 B sb l j HK3.out.q h1 h2).mono ?_
  rintro e w4 ⟨⟨v, rfl⟩, l4, k4⟩
  have HK4 := Lib.hid (HK3.out.trans k4)
  clear k4 HK3
  have hne : l4 ≠ [] := by
    intro e0
    have := HK4.out.len
    rw [e0] at this
    simp at this
    omega
  rcases List.eq_nil_or_concat l4 with rfl | ⟨l5, i, rfl⟩
  · exact absurd rfl hne
  · rw [List.concat_eq_append] at *
    have hl5 : l5.length + 1 = st.length := by have := HK4.out.len; simpa using this
    have HL5 := Lib.hid hl5
    have hl6 : l5.length ≤ 100000 := by omega
    clear hl5 hne
    go_wp2_with fail
    refine (wpop_ok w4 B sb l5 i HK4.out.q hl6).mono ?_
    rintro e w5 ⟨rfl, q5, r5⟩
    have HQ5 := Lib.hid q5
    have R5 := Lib.hid (HK4.out.fr.trans (r5.mono (T := fun k => B ≤ k) (fun k hk _ => by simp at hk; omega)))
    have HM : Hid (∀ x, x ∈ st ↔ x = i ∨ x ∈ l5) := Lib.hid (fun x => by rw [← HK4.out.mem x]; simp [or_comm])
    clear q5 r5 HK4
    unfold numI
    go_wp2_with fail
    go_ret
    exact ⟨i, l5, rfl, HQ5.out, HL5.out, HM.out, R5.out⟩

end Go.Proofs.YtofahdjnejodjaaGreat

/- Lists of numbers, types: the same; Pick; LongType (law24). -/
import Derived.Test.YtjpkmaacalelcaaDoorY4
set_option linter.unusedSimpArgs false
set_option linter.unusedVariables false
set_option linter.unusedSectionVars false
set_option linter.unnecessarySimpa false
namespace Go.Proofs.YtjpkmaacalelcaaDoor
open Go.RowKit Go.Ty

attribute [local go_sem] Program.isFuncB Program.isSliceB

variable {w w' w'' w0 : World}

theorem reads_int {w : World} {sa : Option Addr} {n c k : Nat} {l : List Int} (h : Reads w (.slice sa n c) 1 n (ints l)) (hk : k < l.length) :
    ∃ b o, sa = some ⟨b, o, none⟩ ∧ w.cell? ⟨b, o + k, none⟩ = some (.int .i64 l[k]) :=
  h.at1 (by simp [ints, hk])

set_option maxHeartbeats 1000000 in
theorem same_ints (w : World) (va vb : Value) (l m : List Int) (ha : Reads w va 1 l.length (ints l)) (hb : Reads w vb 1 m.length (ints m)) (h1 : l.length ≤ 1000000) :
    Calls Tryd.prog 45 #[va, vb] w fun e w' => e = .returned (.bool (decide (l = m))) ∧ ∃ q, w' = w.drewN q := by
  obtain ⟨xa, xc, rfl⟩ := ha.shape
  obtain ⟨ya, yc, rfl⟩ := hb.shape
  by_cases hlen : l.length = m.length
  · have HA := Lib.hid ha
    have HB := Lib.hid hb
    have HL := Lib.hid hlen
    clear ha hb
    have hlen' : (m.length : Int) = l.length := by omega
    clear hlen
    generalize hmm : m.length = mm at *
    obtain rfl : mm = l.length := by omega
    have HL2 := Lib.hid hmm
    clear hmm hlen'
    go_enter Tryd.func45, Tryd.ntmps45
    go_wp2_with fail
    go_loopw [5] (fun x wr => ∃ i q : Nat, x = .int .i64 i ∧ i ≤ l.length ∧ Hid (l.take i = m.take i) ∧ wr = w.drewN q) (fun x _ => (l.length - intOf x).toNat)
    case atStart => exact ⟨0, 0, rfl, by omega, Lib.hid (by simp), rfl⟩
    case round =>
      obtain ⟨i, q, rfl, hi, hpre, hwr⟩ := hrel
      have HWR := Lib.hid hwr
      by_cases hlt : i < l.length
      · have hlt2 : i < m.length := by rw [HL2.out]; exact hlt
        obtain ⟨b, o, rfl, c1⟩ := reads_int HA.out hlt
        obtain ⟨b', o', rfl, c2⟩ := reads_int HB.out hlt2
        have r : Fr no w wr := by rw [hwr]; exact (Fr.refl no w).drewN q
        have c1' := r.cell c1 (by simp)
        have c2' := r.cell c2 (by simp)
        clear hwr
        have hlt' : (i : Int) < l.length := by omega
        by_cases hne : l[i] = m[i]
        · have hpre2 : Hid (l.take (i + 1) = m.take (i + 1)) := by
            refine Lib.hid ?_
            rw [List.take_succ_eq_append_getElem hlt, List.take_succ_eq_append_getElem hlt2, hpre.out, hne]
          have hc : (l[i] == m[i]) = true := by simp [hne]
          clear hne hpre c1 c2 r
          generalize l[i] = p at c1' hc
          generalize m[i] = p2 at c2' hc
          obtain rfl : p = p2 := by simpa using hc
          clear hc
          go_wp2_with fail
          go_quiet (fail)
          go_wp2_with fail
          go_roundw
          case rel => exact ⟨i + 1, q + nq, by go_num, by omega, hpre2, by rw [HWR.out]; simp [World.drewN, Nat.add_assoc]⟩
          case measure => first | (simp [intOf]; done) | (simp [intOf]; omega)
        · have hno : Hid (l ≠ m) := Lib.hid (by rintro rfl; exact hne rfl)
          have hc : (l[i] == m[i]) = false := by simpa using hne
          clear hne hpre c1 c2 r
          generalize l[i] = p at c1' hc
          generalize m[i] = p2 at c2' hc
          go_wp2_with fail
          go_quiet (fail)
          go_wp2_with fail
          go_ret
          refine ⟨?_, q + nq, by rw [HWR.out]; simp [World.drewN, Nat.add_assoc]⟩
          rw [decide_eq_false hno.out]; rfl
      · obtain rfl : i = l.length := by omega
        have heq : Hid (l = m) := Lib.hid (by have := hpre.out; rwa [List.take_length, ← HL2.out, List.take_length] at this)
        clear hpre hwr
        go_wp2_with fail
        go_ret
        refine ⟨?_, q, HWR.out⟩
        rw [decide_eq_true heq.out]; rfl
  · have hno : Hid (l ≠ m) := Lib.hid (fun e => hlen (by rw [e]))
    have hc : ((l.length : Int) == (m.length : Int)) = false := by rw [beq_eq_false_iff_ne]; omega
    clear ha hb hlen
    go_enter Tryd.func45, Tryd.ntmps45
    go_wp2_with fail
    go_ret
    refine ⟨?_, 0, rfl⟩
    rw [decide_eq_false hno.out]; rfl


def pkN (t : Int) (n : Nat) : Nat := (t.tmod n % n).toNat
theorem pkN_lt (t : Int) (n : Nat) (hn : 1 ≤ n) : pkN t n < n := by
  have h2 : (n : Int) ≠ 0 := by omega
  have g1 := Int.emod_nonneg (t.tmod n) h2
  have g2 := Int.emod_lt_of_pos (t.tmod n) (b := (n : Int)) (by omega)
  unfold pkN
  omega
set_option maxHeartbeats 1000000 in
theorem pick_det (w : World) (t : Int) (n : Nat) (hn : 1 ≤ n) (hx : n ≤ 1000000) :
    Calls Tryd.prog 31 #[.int .i64 t, .int .i64 n] w fun e w' => e = .returned (.int .i64 (pkN t n)) ∧ w = w' := by
  have h1 : ¬ ((n : Int) < 1) := by omega
  have h2 : (n : Int) ≠ 0 := by omega
  have b1 := Int.tmod_lt_of_pos t (b := (n : Int)) (by omega)
  have b2 : -(n : Int) < t.tmod n := by
    have := Int.lt_tmod_of_pos t (b := (n : Int)) (by omega)
    omega
  have b3 : 0 ≤ (t.tmod n + n).tmod n := Int.tmod_nonneg _ (by omega)
  have b4 : (t.tmod n + n).tmod n < n := Int.tmod_lt_of_pos _ (by omega)
  go_enter Tryd.func31, Tryd.ntmps31
  go_wp2_with fail
  go_ret
  have g1 := Int.emod_nonneg (t.tmod n) h2
  refine ⟨?_, rfl⟩
  unfold pkN
  rw [Int.toNat_of_nonneg g1]; rfl


theorem longt_ok (w : World) (b s : Int) (ma : Option Addr) (n mc : Nat) : Calls Tryd.prog 8 #[.agg #[.int .i64 b, .int .i64 s, .slice ma n mc]] w fun e w' => e = .returned (.bool (decide (12 < n))) ∧ Fr no w w' := by
  have R := Lib.hid ((Fr.refl no w).alloc (.cells #[.int .i64 b, .int .i64 s, .slice ma n mc] 25))
  by_cases h : 12 < n
  · have h' : (12 : Int) < n := by omega
    have HD : Hid (decide (12 < n) = true) := Lib.hid (decide_eq_true h)
    rw [HD.out]
    clear h
    go_enter Tryd.func8, Tryd.ntmps8
    go_wp2_with fail
    go_ret
    exact ⟨by first | rfl | simp [h'], R.out⟩
  · have h' : ¬ (12 : Int) < n := by omega
    have HD : Hid (decide (12 < n) = false) := Lib.hid (decide_eq_false h)
    rw [HD.out]
    clear h
    go_enter Tryd.func8, Tryd.ntmps8
    go_wp2_with fail
    go_ret
    exact ⟨by first | rfl | simp [h'], R.out⟩

theorem samet_ok (w : World) (b s c t : Int) (l m : List Int) (ma mb : Option Addr) (mc md : Nat) (ha : Reads w (.slice ma l.length mc) 1 l.length (ints l)) (hb : Reads w (.slice mb m.length md) 1 m.length (ints m)) (hl : l.length ≤ 100000) (hm : m.length ≤ 100000) :
    Calls Tryd.prog 23 #[.agg #[.int .i64 b, .int .i64 s, .slice ma l.length mc], .agg #[.int .i64 c, .int .i64 t, .slice mb m.length md]] w fun e w' => e = .returned (.bool (decide ((⟨b, s, l⟩ : Ty) = ⟨c, t, m⟩))) ∧ Fr no w w' := by
  have r1 := ((Fr.refl no w).alloc (.cells #[.int .i64 b, .int .i64 s, .slice ma l.length mc] 25)).alloc (.cells #[.int .i64 c, .int .i64 t, .slice mb m.length md] 25)
  have R := Lib.hid r1
  have HS := Lib.hid (same_ints _ _ _ l m (ha.fr r1 (by simp)) (hb.fr r1 (by simp)) (by omega))
  have HR : Hid (decide ((⟨b, s, l⟩ : Ty) = ⟨c, t, m⟩) = (decide (b = c) && (decide (s = t) && decide (l = m)))) := Lib.hid (by simp)
  generalize decide ((⟨b, s, l⟩ : Ty) = ⟨c, t, m⟩) = res at *
  generalize decide (l = m) = q at *
  clear ha hb r1
  by_cases h1 : b = c
  case neg =>
    have e1 : (b == c) = false := by simpa using h1
    have HV : Hid (res = false) := Lib.hid (by rw [HR.out, decide_eq_false h1]; rfl)
    clear h1
    go_enter Tryd.func23, Tryd.ntmps23
    go_wp2_with fail
    go_ret
    exact ⟨by rw [HV.out]; rfl, R.out⟩
  have e1 : (b == c) = true := by simpa using h1
  by_cases h2 : s = t
  case neg =>
    have e2 : (s == t) = false := by simpa using h2
    have HV : Hid (res = false) := Lib.hid (by rw [HR.out, decide_eq_false h2]; simp)
    clear h1 h2
    go_enter Tryd.func23, Tryd.ntmps23
    go_wp2_with fail
    go_ret
    exact ⟨by rw [HV.out]; rfl, R.out⟩
  have e2 : (s == t) = true := by simpa using h2
  have HV : Hid (res = q) := Lib.hid (by rw [HR.out, decide_eq_true h1, decide_eq_true h2]; rfl)
  clear h1 h2
  go_enter Tryd.func23, Tryd.ntmps23
  go_wp2_with fail
  refine HS.out.mono ?_
  rintro e w2 ⟨rfl, q2, rfl⟩
  go_wp2_with fail
  go_ret
  exact ⟨by rw [HV.out]; rfl, R.out.drewN _⟩

end Go.Proofs.YtjpkmaacalelcaaDoor

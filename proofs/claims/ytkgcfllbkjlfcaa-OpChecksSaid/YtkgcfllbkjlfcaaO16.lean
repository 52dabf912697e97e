import Derived.Test.YtkgcfllbkjlfcaaO15
namespace Go.Proofs.Ytkgcfllbkjlfcaa
open Go.RowKit

attribute [local go_sem] Program.isFuncB Program.isSliceB

variable {w w' w'' w0 : World}

set_option maxHeartbeats 1000000 in
theorem pick_any (w : World) (t : Int) (n : Nat) (ht : (Lit.int .i64 t).wf = true) (hn : 1 ≤ n) (hx : n ≤ 1000000) :
    Calls Try.prog 22 #[.int .i64 t, .int .i64 n] w fun e w' => (∃ k : Nat, k < n ∧ e = .returned (.int .i64 k)) ∧ w = w' := by
  have h1 : ¬ ((n : Int) < 1) := by omega
  have h2 : (n : Int) ≠ 0 := by omega
  have b1 := Int.tmod_lt_of_pos t (b := (n : Int)) (by omega)
  have b2 : -(n : Int) < t.tmod n := by
    have := Int.lt_tmod_of_pos t (b := (n : Int)) (by omega)
    omega
  have b3 : 0 ≤ (t.tmod n + n).tmod n := Int.tmod_nonneg _ (by omega)
  have b4 : (t.tmod n + n).tmod n < n := Int.tmod_lt_of_pos _ (by omega)
  go_enter Try.func22, Try.ntmps22
  go_wp2_with fail
  go_ret
  have g1 := Int.emod_nonneg (t.tmod n) h2
  have g2 := Int.emod_lt_of_pos (t.tmod n) (b := (n : Int)) (by omega)
  refine ⟨⟨(t.tmod n % n).toNat, by omega, ?_⟩, rfl⟩
  rw [Int.toNat_of_nonneg g1]; rfl

theorem reads_int {w : World} {sa : Option Addr} {n c k : Nat} {l : List Int} (h : Reads w (.slice sa n c) 1 n (ints l)) (hk : k < l.length) :
    ∃ b o, sa = some ⟨b, o, none⟩ ∧ w.cell? ⟨b, o + k, none⟩ = some (.int .i64 l[k]) :=
  h.at1 (by simp [ints, hk])

set_option maxHeartbeats 1000000 in
theorem same_ints (w : World) (va vb : Value) (l m : List Int) (ha : Reads w va 1 l.length (ints l)) (hb : Reads w vb 1 m.length (ints m)) (h1 : l.length ≤ 1000000) :
    Calls Try.prog 17 #[va, vb] w fun e w' => e = .returned (.bool (decide (l = m))) ∧ ∃ q, w' = w.drewN q := by
  obtain ⟨xa, xc, rfl⟩ := ha.shape
  obtain ⟨ya, yc, rfl⟩ := hb.shape
  by_cases hlen : l.length = m.length
  · have HA := Lib.hid ha
    have HB := Lib.hid hb
    have HL := Lib.hid hlen
    clear ha hb
    have hlen' : (m.length : Int) = l.length := by omega
    clear hlen
    generalize hmm : m.length = mm at *
    obtain rfl : mm = l.length := by omega
    have HL2 := Lib.hid hmm
    clear hmm hlen'
    go_enter Try.func17, Try.ntmps17
    go_wp2_with fail
    go_loopw [5] (fun x wr => ∃ i q : Nat, x = .int .i64 i ∧ i ≤ l.length ∧ Hid (l.take i = m.take i) ∧ wr = w.drewN q) (fun x _ => (l.length - intOf x).toNat)
    case atStart => exact ⟨0, 0, rfl, by omega, Lib.hid (by simp), rfl⟩
    case round =>
      obtain ⟨i, q, rfl, hi, hpre, hwr⟩ := hrel
      have HWR := Lib.hid hwr
      by_cases hlt : i < l.length
      · have hlt2 : i < m.length := by rw [HL2.out]; exact hlt
        obtain ⟨b, o, rfl, c1⟩ := reads_int HA.out hlt
        obtain ⟨b', o', rfl, c2⟩ := reads_int HB.out hlt2
        have r : Fr no w wr := by rw [hwr]; exact (Fr.refl no w).drewN q
        have c1' := r.cell c1 (by simp)
        have c2' := r.cell c2 (by simp)
        clear hwr
        have hlt' : (i : Int) < l.length := by omega
        by_cases hne : l[i] = m[i]
        · have hpre2 : Hid (l.take (i + 1) = m.take (i + 1)) := by
            refine Lib.hid ?_
            rw [List.take_succ_eq_append_getElem hlt, List.take_succ_eq_append_getElem hlt2, hpre.out, hne]
          have hc : (l[i] == m[i]) = true := by simp [hne]
          clear hne hpre c1 c2 r
          generalize l[i] = p at c1' hc
          generalize m[i] = p2 at c2' hc
          obtain rfl : p = p2 := by simpa using hc
          clear hc
          go_wp2_with fail
          go_quiet (fail)
          go_wp2_with fail
          go_roundw
          case rel => exact ⟨i + 1, q + nq, by go_num, by omega, hpre2, by rw [HWR.out]; simp [World.drewN, Nat.add_assoc]⟩
          case measure => first | (simp [intOf]; done) | (simp [intOf]; omega)
        · have hno : Hid (l ≠ m) := Lib.hid (by rintro rfl; exact hne rfl)
          have hc : (l[i] == m[i]) = false := by simpa using hne
          clear hne hpre c1 c2 r
          generalize l[i] = p at c1' hc
          generalize m[i] = p2 at c2' hc
          go_wp2_with fail
          go_quiet (fail)
          go_wp2_with fail
          go_ret
          refine ⟨?_, q + nq, by rw [HWR.out]; simp [World.drewN, Nat.add_assoc]⟩
          rw [decide_eq_false hno.out]; rfl
      · obtain rfl : i = l.length := by omega
        have heq : Hid (l = m) := Lib.hid (by have := hpre.out; rwa [List.take_length, ← HL2.out, List.take_length] at this)
        clear hpre hwr
        go_wp2_with fail
        go_ret
        refine ⟨?_, q, HWR.out⟩
        rw [decide_eq_true heq.out]; rfl
  · have hno : Hid (l ≠ m) := Lib.hid (fun e => hlen (by rw [e]))
    have hc : ((l.length : Int) == (m.length : Int)) = false := by rw [beq_eq_false_iff_ne]; omega
    clear ha hb hlen
    go_enter Try.func17, Try.ntmps17
    go_wp2_with fail
    go_ret
    refine ⟨?_, 0, rfl⟩
    rw [decide_eq_false hno.out]; rfl

end Go.Proofs.Ytkgcfllbkjlfcaa

import Derived.Test.YtpgmfifieilhkaaL4
namespace Go.Proofs.Ytpgmfifieilhkaa
open Go.RowKit

attribute [local go_sem] Program.isFuncB Program.isSliceB

variable {w w' w'' : World} {words : Nat} {P P' P'' : List (Nat × List Nat)} {s s' : CS} {r r' : RS}

theorem longOf_no {L : Acts} (h : longOf L = false) : ∀ i (hi : i < L.length), L[i].2.length ≤ 60 := by
  unfold longOf at h
  rw [Bool.or_eq_false_iff, List.any_eq_false] at h
  intro i hi
  have h3 : ¬ 40 < L.length := by simpa using h.2
  have h4 := h.1 L[i] (List.mem_take_iff_getElem.2 ⟨i, by omega, rfl⟩)
  simpa using h4

/-- an act that is handed in, in all later worlds -/
def Stays (w : World) (b o i : Nat) (f : Int) (xa : Option Addr) (xc : Nat) (ws : List Nat) : Prop :=
  ∀ w' : World, Fr (far w.heap.size) w w' → w'.cell? ⟨b, o + i * 2, none⟩ = some (.int .i64 f) ∧ w'.cell? ⟨b, o + i * 2 + 1, none⟩ = some (.slice xa ws.length xc) ∧ Reads w' (.slice xa ws.length xc) 1 ws.length (u32s ws)
theorem ActAt.stays {sa : Option Addr} {i : Nat} {f : Int} {ws : List Nat} {b o : Nat} {xa : Option Addr} {xc : Nat} (h : ActAt w sa i f ws b o xa xc) : Stays w b o i f xa xc ws := fun w' hf =>
  have h := h.fr hf (fun k hk => hk)
  ⟨h.hf, h.hw, h.r⟩

set_option maxRecDepth 100000 in
set_option maxHeartbeats 8000000 in
theorem refuses_ok (w : World) (room : Int) (hroom : (Lit.int .i64 room).wf = true) {n : Nat} {d : Dt} (v : Value) (hv : Rd Try.prog w n 22 [v] d) {n2 : Nat} {d2 : Dt} (xs : Array Value) (hx : Rd Try.prog w n2 25 xs.toList d2) :
    Calls Try.prog 3 #[.int .i64 room, v, .agg xs] w fun e w' => e = .returned (.bool true) ∧ Fr no w w' := by
  obtain ⟨L, sa, c, rfl, hLm, hL⟩ := acts_of hv
  obtain ⟨f, xa, xc, ws, hxs, hxr, hxlt, hxm⟩ := act_of hx
  obtain rfl : xs = #[.int .i64 f, .slice xa ws.length xc] := by cases xs; simpa using hxs
  have hLm' : L.length ≤ 9223372036854775807 := by unfold maxLen at hLm; omega
  have hxm' : ws.length ≤ 9223372036854775807 := by unfold maxLen at hxm; omega
  have HXOLD := Lib.hid (show ws ≠ [] → ∀ k, (Value.slice xa ws.length xc).ownBlock = some k → k < w.heap.size from fun hne k hk => by
    obtain ⟨x, l, rfl⟩ : ∃ x l, ws = x :: l := by cases ws with | nil => exact (hne rfl).elim | cons x l => exact ⟨x, l, rfl⟩
    obtain ⟨b', o', rfl, hc⟩ := hxr.at1 (k := 0) (u := .int .u32 x) (by simp [u32s])
    cases hk
    exact World.block_lt_of_cell? _ _ hc)
  have HL := Lib.hid hL
  have HLM := Lib.hid hLm
  have HXR := Lib.hid hxr
  have HXLT := Lib.hid hxlt
  clear hv hL hx hxs hxr hxlt hLm hxm
  go_enter Try.func3, Try.ntmps3
  go_wp2_with fail
  refine (awake_ok _).mono ?_
  rintro e w1 ⟨rfl, r1⟩
  have x0 : w1.cell? ⟨w.heap.size, 0, none⟩ = some (.int .i64 f) := r1.cell (cell_of_heap (heap_new w _) rfl) (by simp)
  have x1 : w1.cell? ⟨w.heap.size, 1, none⟩ = some (.slice xa ws.length xc) := r1.cell (cell_of_heap (heap_new w _) rfl) (by simp)
  have rw1 : Fr no w w1 := ((Fr.refl no w).alloc _).trans r1
  have HX : Hid (Stays w1 w.heap.size 0 0 f xa xc ws) := by
    refine Lib.hid (ActAt.stays (sa := some ⟨w.heap.size, 0, none⟩) ⟨rfl, ?_, ?_, HXR.out.fr rw1 (by simp), HXLT.out, by unfold maxLen; omega⟩)
    · simpa using x0
    · simpa using x1
  have HL1 := Lib.hid (HL.out.fr rw1 (by simp))
  have RW1 := Lib.hid rw1
  clear r1 rw1 x0 x1
  go_wp2_with fail
  refine (pick_any w1 room 501 hroom (by omega) (by omega)).mono ?_
  rintro e w' ⟨⟨words, hwords, rfl⟩, rfl⟩
  go_wp2_with fail
  refine (new_yes w1 words (by omega)).mono ?_
  rintro e w2 ⟨s, rfl, h2, r2, n2⟩
  have HK : Hid (Keeps w1 w2 words [] s s.b) := Lib.hid ⟨h2, rfl, n2, r2.to⟩
  clear h2 r2 n2
  go_wp2_with fail
  refine (long_ok w2 L sa c HLM.out (HL1.out.fr HK.out.fr (fun k hk => hk))).mono ?_
  rintro e w' ⟨rfl, rfl⟩
  have fin : ∀ w9 : World, Fr (far w1.heap.size) w1 w9 → Fr no w w9 := fun w9 h9 =>
    RW1.out.trans' h9 (fun k hk _ => by have := RW1.out.size; unfold far at hk; omega)
  have FIN := Lib.hid fin
  clear fin
  cases hlong : longOf L with
  | true =>
    go_wp2_with fail
    go_ret
    exact ⟨rfl, FIN.out _ HK.out.fr⟩
  | false =>
  obtain ⟨x0, x1, -⟩ := HX.out _ HK.out.fr
  simp only [Nat.zero_mul, Nat.zero_add] at x0 x1
  by_cases h60 : 60 < ws.length
  · have h60' : (60 : Int) < ws.length := by omega
    go_wp2_with fail
    go_ret
    exact ⟨rfl, FIN.out _ HK.out.fr⟩
  have h60' : ¬ (60 : Int) < ws.length := by omega
  have HLONG := Lib.hid hlong
  clear hlong
  go_wp2_with fail
  clear x0 x1
  go_loopw [10] (fun x wr => ∃ i P' s', x = .int .i64 (i : Nat) ∧ i ≤ L.length ∧ Keeps w1 wr words P' s' s.b) (fun x _ => (L.length - intOf x).toNat)
  case atStart => exact ⟨0, [], s, rfl, by omega, HK.out⟩
  case round =>
    obtain ⟨i, P, s1, rfl, hi, hk⟩ := hrel
    have HK1 := Lib.hid hk
    clear hk
    by_cases hlt : i < L.length
    · obtain ⟨b, o, ya, yc, ha⟩ := HL1.out i hlt
      have h60i := longOf_no HLONG.out i hlt
      generalize L[i].1 = g at ha
      generalize L[i].2 = us at ha h60i
      obtain rfl := ha.hsa
      have HA := Lib.hid ha
      obtain ⟨a0, a1, a2⟩ := ha.stays _ HK1.out.fr.drew
      have hlt' : (i : Int) < L.length := by omega
      clear ha
      go_wp2_with fail
      refine Lex.region [11] [12] (by kernel_rfl) (by kernel_rfl) ?_
      refine Lex.opens (fun w' => w'.cell? ⟨b, o + i * 2, none⟩ = some (.int .i64 g) ∧ w'.cell? ⟨b, o + i * 2 + 1, none⟩ = some (.slice ya us.length yc)) (⟨a0, a1⟩) ?_
      repeat (first
        | (refine Lex.skips (by rfl) ?_; (try simp only [Act.put, List.setIfInBounds_toArray, List.set_cons_zero, List.set_cons_succ]))
        | (refine Lex.quiet (v := ?_) (by rfl) (by rfl) ?_ ?_; rotate_left; (focus (intro w' hS'; go_simp; try rfl)); (try simp only [Act.put, List.setIfInBounds_toArray, List.set_cons_zero, List.set_cons_succ])))
      refine Lex.loud (by rfl) (by rfl) ?_
      intro K' hK'
      go_simp
      obtain ⟨p1, p2, P', hpo⟩ : ∃ p1 p2 P', putOf words P g us = (p1, p2, P') := ⟨_, _, _, rfl⟩
      refine ((HK1.out.stay ((Fr.refl no wr).drew)).put g ya yc us a2 HA.out.lt (by omega) (HA.out.old) hpo).mono ?_
      clear hpo
      rintro e w5 ⟨rfl, s2, k2⟩
      have HK2 := Lib.hid ((HK1.out.stay ((Fr.refl no wr).drew)).go k2)
      clear k2 a0 a1 a2
      obtain ⟨a0, a1, -⟩ := HA.out.stays _ HK2.out.fr
      refine hK' _ _ (⟨a0, a1⟩) ?_
      clear hK'
      try simp only [Act.put, List.setIfInBounds_toArray, List.set_cons_zero, List.set_cons_succ]
      repeat (first
        | (refine Lex.skips (by rfl) ?_; (try simp only [Act.put, List.setIfInBounds_toArray, List.set_cons_zero, List.set_cons_succ]))
        | (refine Lex.quiet (v := ?_) (by rfl) (by rfl) ?_ ?_; rotate_left; (focus (intro w' hS'; go_simp; try rfl)); (try simp only [Act.put, List.setIfInBounds_toArray, List.set_cons_zero, List.set_cons_succ])))
      refine Lex.done ?_
      refine Lex.ends ?_
      go_wp2_with fail
      go_roundw
      case rel => exact ⟨i + 1, P', s2, by go_num, by omega, HK2.out⟩
      case measure => first | (simp [intOf]; done) | (simp [intOf]; omega)
    · obtain rfl : i = L.length := by omega
      go_wp2_with fail
      refine HK1.out.code.mono ?_
      rintro e w3 ⟨va, vc, rfl, s3, k3, hh3⟩
      have HK3 := Lib.hid (HK1.out.go k3)
      have HH3 := Lib.hid hh3
      clear k3 hh3
      go_wp2_with fail
      refine HK3.out.left.mono ?_
      rintro e w4 ⟨rfl, s4, k4⟩
      have HK4 := Lib.hid (HK3.out.go k4)
      have HH4 := Lib.hid (HH3.out.go k4)
      clear k4
      go_wp2_with fail
      refine HK4.out.next.mono ?_
      rintro e w5 ⟨rfl, s5, k5⟩
      have HK5 := Lib.hid (HK4.out.go k5)
      have HH5 := Lib.hid (HH4.out.go k5)
      clear k5
      obtain ⟨x0, x1, -⟩ := HX.out _ HK5.out.fr
      simp only [Nat.zero_mul, Nat.zero_add] at x0 x1
      go_wp2_with fail
      refine (HK5.out.addr f).mono ?_
      rintro e w6 ⟨⟨ad, lies, hsp, rfl⟩, s6, k6⟩
      have HK6 := Lib.hid (HK5.out.go k6)
      have HH6 := Lib.hid (HH5.out.go k6)
      have hroomP := HK6.out.c.room
      have hwh := why_of hroomP f ws hsp
      clear k6 x0 x1 hsp
      obtain ⟨x0, x1, x2⟩ := HX.out _ HK6.out.fr
      have X2 := Lib.hid x2
      simp only [Nat.zero_mul, Nat.zero_add] at x0 x1
      clear x2
      generalize hPl : (flat P).length = pl at *
      have HPL := Lib.hid hPl
      clear hPl
      rcases hwh with ⟨c0, hwhy, hc0, hpo⟩ | ⟨g0, g1, g2, rfl, g4, hpo⟩
      · have HPO := Lib.hid hpo
        have HOLD1 := Lib.hid (show ws ≠ [] → ∀ k, (Value.slice xa ws.length xc).ownBlock = some k → k < w1.heap.size from fun hne k hk => Nat.lt_of_lt_of_le (HXOLD.out hne k hk) RW1.out.size)
        clear hpo
        rcases hwhy with ⟨g0⟩ | ⟨g0, g1⟩ | ⟨g0, g1, g2⟩ | ⟨g0, g1, g2, rfl⟩ | ⟨g0, g1, g2, rfl, g4⟩
        case' none =>
          have hn1 : ((ws.length : Int) == 0) = true := by rw [beq_iff_eq]; omega
          have hn2 : (ws.length == 0) = true := by rw [beq_iff_eq]; omega
          clear g2
        case' lies => have hn1 : ((ws.length : Int) == 0) = false := by rw [beq_eq_false_iff_ne]; omega
        case' full =>
          have hn1 : ((ws.length : Int) == 0) = false := by rw [beq_eq_false_iff_ne]; omega
          rw [HPL.out] at g4
        all_goals
          clear hc0
          go_wp2_with fail
          refine (HK6.out.put f xa xc ws X2.out HXLT.out (by omega) HOLD1.out HPO.out).mono ?_
          rintro e w7 ⟨rfl, s7, k7⟩
          have HK7 := Lib.hid (HK6.out.go k7)
          have HH7 := Lib.hid (HH6.out.go k7)
          clear k7 x0 x1
          go_wp2_with fail
          have C := HK7.out.left
          rw [HPL.out] at C
          refine C.mono ?_
          clear C
          rintro e w8 ⟨rfl, s8, k8⟩
          have HK8 := Lib.hid (HK7.out.go k8)
          have HH8 := Lib.hid (HH7.out.go k8)
          clear k8
          go_wp2_with fail
          have C := HK8.out.next
          rw [HPL.out] at C
          refine C.mono ?_
          clear C
          rintro e w9 ⟨rfl, s9, k9⟩
          have HK9 := Lib.hid (HK8.out.go k9)
          have HH9 := Lib.hid (HH8.out.go k9)
          clear k9
          go_wp2_with fail
          have C := HK9.out.code
          rw [HPL.out] at C
          refine C.mono ?_
          clear C
          rintro e w10 ⟨vb, vd, rfl, s10, k10, hh10⟩
          have HK10 := Lib.hid (HK9.out.go k10)
          have HH10 := Lib.hid (HH9.out.go k10)
          have HN10 := Lib.hid hh10
          clear k10 hh10
          go_wp2_with fail
          refine (same_words _ _ _ (flat P) (flat P) (by rw [HPL.out]; exact owns_reads HN10.out.z.owns) (by rw [HPL.out]; exact owns_reads HH10.out.z.owns) (by rw [HPL.out]; omega)).mono ?_
          rintro e w11 ⟨rfl, q, hw⟩
          rw [decide_eq_true rfl]
          have HF := Lib.hid (HK10.out.fr.trans (show Fr (far w1.heap.size) w10 w11 from by rw [hw]; exact (Fr.refl _ w10).drewN q))
          clear hw
          go_wp2_with fail
          go_ret
          exact ⟨rfl, FIN.out _ HF.out⟩
      · rw [show (adr pl : Nat) = 4294967296 + 4 * pl from by unfold adr; omega] at hpo
        have HPO := Lib.hid hpo
        have HOLD1 := Lib.hid (show ws ≠ [] → ∀ k, (Value.slice xa ws.length xc).ownBlock = some k → k < w1.heap.size from fun hne k hk => Nat.lt_of_lt_of_le (HXOLD.out hne k hk) RW1.out.size)
        have hn1 : ((ws.length : Int) == 0) = false := by rw [beq_eq_false_iff_ne]; omega
        have hpl : pl ≤ 501 := by omega
        have HPL2 := Lib.hid (show (flat (P ++ [(f.toNat, ws)])).length = pl + ws.length from by rw [flat_app, flat_one, List.length_append, HPL.out])
        have HG2 := Lib.hid g2
        clear hpo g2
        go_wp2_with fail
        have C := HK6.out.put f xa xc ws X2.out HXLT.out (by omega) HOLD1.out HPO.out
        rw [show ((4294967296 + 4 * pl : Nat) : Int) = 4294967296 + 4 * (pl : Int) from by omega] at C
        refine C.mono ?_
        clear C
        rintro e w7 ⟨rfl, s7, k7⟩
        have HK7 := Lib.hid (HK6.out.go k7)
        clear k7 x0 x1
        go_wp2_with fail
        have HK7 := Lib.hid (HK7.out.stay ((Fr.refl no w7).drew))
        obtain ⟨-, x1, -⟩ := HX.out _ HK7.out.fr
        simp only [Nat.zero_mul, Nat.zero_add] at x1
        have y1 : IntKind.i64.wrap ((words : Int) - pl - ws.length) = (words : Int) - pl - ws.length := by rw [IntKind.wrap_i64]; omega
        have y2 : IntKind.u64.wrap (ws.length : Int) = ws.length := by simp [IntKind.wrap, IntKind.bits, IntKind.signed]; omega
        have y3 : IntKind.u64.wrap (4 * (ws.length : Int)) = 4 * ws.length := by simp [IntKind.wrap, IntKind.bits, IntKind.signed]; omega
        have y4 : IntKind.u64.wrap (4294967296 + 4 * (pl : Int) + 4 * (ws.length : Int)) = 4294967296 + 4 * (pl : Int) + 4 * (ws.length : Int) := by simp [IntKind.wrap, IntKind.bits, IntKind.signed]; omega
        have y5 : IntKind.i64.wrap ((pl : Int) + ws.length) = (pl : Int) + ws.length := by rw [IntKind.wrap_i64]; omega
        refine Lex.region [8, 18, 30] [41] (by kernel_rfl) (by kernel_rfl) ?_
        refine Lex.opens (fun w' => w'.cell? ⟨w.heap.size, 1, none⟩ = some (.slice xa ws.length xc)) (x1) ?_
        repeat (first
          | (refine Lex.skips (by rfl) ?_; (try simp only [Act.put, List.setIfInBounds_toArray, List.set_cons_zero, List.set_cons_succ]))
          | (refine Lex.quiet (v := ?_) (by rfl) (by rfl) ?_ ?_; rotate_left; (focus (intro w' hS'; go_simp; try rfl)); (try simp only [Act.put, List.setIfInBounds_toArray, List.set_cons_zero, List.set_cons_succ])))
        refine Lex.loud (by rfl) (by rfl) ?_
        intro K' hK'
        go_simp
        have C := HK7.out.left
        rw [HPL2.out, show (words : Int) - ((pl + ws.length : Nat) : Int) = (words : Int) - pl - ws.length from by omega] at C
        refine C.mono ?_
        clear C
        rintro e w8 ⟨rfl, s8, k8⟩
        have HK8 := Lib.hid (HK7.out.go k8)
        clear k8 x1
        obtain ⟨-, x1, -⟩ := HX.out _ HK8.out.fr
        simp only [Nat.zero_mul, Nat.zero_add] at x1
        refine hK' _ _ (x1) ?_
        clear hK'
        try simp only [Act.put, List.setIfInBounds_toArray, List.set_cons_zero, List.set_cons_succ]
        repeat (first
          | (refine Lex.skips (by rfl) ?_; (try simp only [Act.put, List.setIfInBounds_toArray, List.set_cons_zero, List.set_cons_succ]))
          | (refine Lex.quiet (v := ?_) (by rfl) (by rfl) ?_ ?_; rotate_left; (focus (intro w' hS'; go_simp; try rfl)); (try simp only [Act.put, List.setIfInBounds_toArray, List.set_cons_zero, List.set_cons_succ])))
        refine Lex.loud (by rfl) (by rfl) ?_
        intro K' hK'
        go_simp
        have C := HK8.out.next
        rw [HPL2.out, show 4294967296 + 4 * ((pl + ws.length : Nat) : Int) = 4294967296 + 4 * (pl : Int) + 4 * (ws.length : Int) from by omega] at C
        refine C.mono ?_
        clear C
        rintro e w9 ⟨rfl, s9, k9⟩
        have HK9 := Lib.hid (HK8.out.go k9)
        clear k9 x1
        obtain ⟨-, x1, -⟩ := HX.out _ HK9.out.fr
        simp only [Nat.zero_mul, Nat.zero_add] at x1
        refine hK' _ _ (x1) ?_
        clear hK'
        try simp only [Act.put, List.setIfInBounds_toArray, List.set_cons_zero, List.set_cons_succ]
        repeat (first
          | (refine Lex.skips (by rfl) ?_; (try simp only [Act.put, List.setIfInBounds_toArray, List.set_cons_zero, List.set_cons_succ]))
          | (refine Lex.quiet (v := ?_) (by rfl) (by rfl) ?_ ?_; rotate_left; (focus (intro w' hS'; go_simp; try rfl)); (try simp only [Act.put, List.setIfInBounds_toArray, List.set_cons_zero, List.set_cons_succ])))
        refine Lex.loud (by rfl) (by rfl) ?_
        intro K' hK'
        go_simp
        have C := HK9.out.code
        rw [HPL2.out] at C
        refine C.mono ?_
        clear C
        rintro e w10 ⟨vb, vd, rfl, s10, k10, hh10⟩
        have HK10 := Lib.hid (HK9.out.go k10)
        clear k10 x1 hh10
        obtain ⟨-, x1, -⟩ := HX.out _ HK10.out.fr
        simp only [Nat.zero_mul, Nat.zero_add] at x1
        refine hK' _ _ (x1) ?_
        clear hK'
        try simp only [Act.put, List.setIfInBounds_toArray, List.set_cons_zero, List.set_cons_succ]
        repeat (first
          | (refine Lex.skips (by rfl) ?_; (try simp only [Act.put, List.setIfInBounds_toArray, List.set_cons_zero, List.set_cons_succ]))
          | (refine Lex.quiet (v := ?_) (by rfl) (by rfl) ?_ ?_; rotate_left; (focus (intro w' hS'; go_simp; try rfl)); (try simp only [Act.put, List.setIfInBounds_toArray, List.set_cons_zero, List.set_cons_succ])))
        refine Lex.done ?_
        refine Lex.ends ?_
        go_wp2_with fail
        go_ret
        exact ⟨rfl, FIN.out _ HK10.out.fr⟩

end Go.Proofs.Ytpgmfifieilhkaa

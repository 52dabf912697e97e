import Derived.Test.YtpgmfifieilhkaaL6
import Derived.Test.YtpgmfifieilhkaaL1
namespace Go.Proofs.Ytpgmfifieilhkaa
open Go.RowKit

attribute [local go_sem] Program.isFuncB Program.isSliceB

variable {w w' w'' w0 : World} {words cb fb : Nat} {P P' P'' : List (Nat × List Nat)} {s s' : CS} {va vw va' vw' : Value} {aL wL : List Nat} {F : Nat → Nat}

theorem addr_ex (P : List (Nat × List Nat)) (f : Int) : ∃ a b, addrSpec P f a b := by
  by_cases h : ∃ i, ∃ hi : i < P.length, (P[i].1 : Int) = f
  · obtain ⟨i, hi, he⟩ := h
    exact ⟨_, _, .inl ⟨i, hi, he, rfl, rfl⟩⟩
  · exact ⟨_, _, .inr ⟨fun i hi he => h ⟨i, hi, he⟩, rfl, rfl⟩⟩

theorem St.start (hk : Keeps w0 w words [] s cb) (hown : w'.ownsRow w0.heap.size 3 1 (.slice (some ⟨w.heap.size, 0, none⟩) 64 64) 64 (List.replicate 64 (.int .i64 0))) (hg : w.grownBy w' none) :
    St w0 w' words [] s cb (.slice none 0 0) (.slice none 0 0) [] [] w.heap.size (fun _ => 0) := by
  have hr : Fr no w w' := (Fr.refl _ w).grown hg (fun k hk => by cases hk)
  refine ⟨hk.stay hr, World.ownsRow_nil _ _ _ _, World.ownsRow_nil _ _ _ _, ?_, (fun k hk => by cases hk), (fun k hk => by cases hk), fun hf => by have := hk.c.lt _ hf; omega, hk.fr.size⟩
  rcases hown.2 with ⟨e, _⟩ | ⟨g, cap, cur, e, _, hgg, h1, _, h3, h4⟩
  · cases e
  · cases e
    refine ⟨cur, hgg, fun f hf => ?_⟩
    have := congrArg (fun l => l[f]?) h4
    simp only [List.getElem?_take, List.getElem?_replicate] at this
    rw [if_pos (by omega), if_pos hf, Array.getElem?_toList] at this
    exact this

theorem Keeps.finds {w0 : World} (h : Keeps w0 w words P s cb) (a : Nat) (n : Int) (is : Bool) (hf : findOf P a = (n, is)) :
    Calls Try.prog 24 #[.pointer (some ⟨cb, 0, none⟩), .int .u64 a, .int .i64 n, .bool is] w fun e w' => e = .returned (.bool true) ∧ ∃ s', CTo w w' words P s P s' :=
  finds_lit h.c h.cb a n is hf

theorem find_in (P : List (Nat × List Nat)) (n : Nat) (h : n < (flat P).length) : findOf P (adr n) = (((who P n : Nat) : Int), true) := by
  rw [findOf, if_pos (by unfold adr; omega)]
  have : (adr n - 4294967296) / 4 = n := by unfold adr; omega
  rw [this]
theorem find_odd (P : List (Nat × List Nat)) (a : Nat) (h : a % 4 ≠ 0) : findOf P a = (-1, false) := by
  rw [findOf, if_neg (by omega)]
theorem find_end (P : List (Nat × List Nat)) : findOf P (adr (flat P).length) = (-1, false) := by
  rw [findOf, if_neg (by omega)]
theorem find_low4 (P : List (Nat × List Nat)) : findOf P 4294967292 = (-1, false) := by
  rw [findOf, if_neg (by omega)]

theorem firstOf_le : ∀ (P : List (Nat × List Nat)) (o f : Nat), firstOf o P f ≤ o + (flat P).length + 1
  | [], o, f => by simp [firstOf]
  | (k, us) :: P, o, f => by
    have ih := firstOf_le P (o + us.length) f
    have e : (flat ((k, us) :: P)).length = us.length + (flat P).length := by simp [flat]
    simp only [firstOf, e]
    split <;> omega

set_option maxRecDepth 100000 in
set_option maxHeartbeats 16000000 in
theorem stays_ok (w : World) (room : Int) (hroom : (Lit.int .i64 room).wf = true) {n : Nat} {d : Dt} (v : Value) (hv : Rd Try.prog w n 22 [v] d) :
    Calls Try.prog 7 #[.int .i64 room, v] w fun e w' => e = .returned (.bool true) ∧ Fr no w w' := by
  obtain ⟨L, sa, c, rfl, hLm, hL⟩ := acts_of hv
  have hLm' : L.length ≤ 9223372036854775807 := by unfold maxLen at hLm; omega
  have HL := Lib.hid hL
  have HLM := Lib.hid hLm
  clear hv hL hLm
  go_enter Try.func7, Try.ntmps7
  go_wp2_with fail
  refine (known_ok _).mono ?_
  rintro e w1 ⟨rfl, r1⟩
  have HL1 := Lib.hid (HL.out.fr r1 (by simp))
  have RW1 := Lib.hid r1
  clear r1
  go_wp2_with fail
  refine (pick_any w1 room 2001 hroom (by omega) (by omega)).mono ?_
  rintro e w' ⟨⟨words, hwords, rfl⟩, rfl⟩
  go_wp2_with fail
  refine (new_yes w1 words (by omega)).mono ?_
  rintro e w2 ⟨s, rfl, h2, r2, n2⟩
  have HK : Hid (Keeps w1 w2 words [] s s.b) := Lib.hid ⟨h2, rfl, n2, r2.to⟩
  clear h2 r2 n2
  go_wp2_with fail
  refine (long_ok w2 L sa c HLM.out (HL1.out.fr HK.out.fr (fun k hk => hk))).mono ?_
  rintro e w' ⟨rfl, rfl⟩
  have fin : ∀ w9 : World, Fr (far w1.heap.size) w1 w9 → Fr no w w9 := fun w9 h9 =>
    RW1.out.trans' h9 (fun k hk _ => by have := RW1.out.size; unfold far at hk; omega)
  have FIN := Lib.hid fin
  clear fin
  cases hlong : longOf L with
  | true =>
    go_wp2_with fail
    go_ret
    exact ⟨rfl, FIN.out _ HK.out.fr⟩
  | false =>
  have HLONG := Lib.hid hlong
  clear hlong
  go_wp2_with (at_make; refine wpList_make_any rfl _ _ 71 rfl w1.heap.size 3 (.int .i64 0) 8 Try.underlying71 Try.info3 rfl _ _ _ _ 64 rfl rfl rfl rfl (by omega) (by unfold maxLen; omega) HK.out.fr.size ?_; intro w3 hown hgrow)
  have HS0 := Lib.hid (St.start HK.out hown hgrow)
  clear hown hgrow
  generalize w2.heap.size = fb at *
  go_loopw [8, 9, 11] (fun x y z wr => ∃ i P' s', z = .int .i64 (i : Nat) ∧ i ≤ L.length ∧ St w1 wr words P' s' s.b x y (flat P') (whos P') fb (firstOf 0 P')) (fun _ _ z _ => (L.length - intOf z).toNat)
  case atStart => exact ⟨0, [], s, rfl, by omega, HS0.out⟩
  case round =>
    obtain ⟨i, P, s1, rfl, hi, hst⟩ := hrel
    obtain ⟨xa, xc, rfl⟩ := owns_shape hst.all
    obtain ⟨ya, yc, rfl⟩ := owns_shape hst.who
    have hpl : (flat P).length ≤ 2000 := by have := hst.k.c.room; omega
    have hwl := whos_len P
    rw [hwl] at hst ⊢
    have HST := Lib.hid hst
    clear hst hwl
    by_cases hlt : i < L.length
    · obtain ⟨b, o, za, zc, ha⟩ := HL1.out i hlt
      have h60i := longOf_no HLONG.out i hlt
      generalize L[i].1 = f at ha
      generalize L[i].2 = ws at ha h60i
      obtain rfl := ha.hsa
      have HA := Lib.hid ha
      have hlt' : (i : Int) < L.length := by omega
      clear ha
      go_wp2_with fail
      refine HST.out.k.next.mono ?_
      rintro e w4 ⟨rfl, s2, k2⟩
      have HS2 := Lib.hid ((HST.out.go k2).stay ((Fr.refl no w4).drew))
      clear k2
      obtain ⟨a0, a1, a2⟩ := HA.out.stays _ HS2.out.k.fr
      have A2 := Lib.hid a2
      clear a2
      obtain ⟨aa, ab, hsp⟩ := addr_ex P f
      have hwh := why_of HS2.out.k.c.room f ws hsp
      have HSP := Lib.hid hsp
      clear hsp
      go_wp2_with fail
      refine Lex.region [11] [17] (by kernel_rfl) (by kernel_rfl) ?_
      refine Lex.opens (fun w' => w'.cell? ⟨b, o + i * 2, none⟩ = some (.int .i64 f) ∧ w'.cell? ⟨b, o + i * 2 + 1, none⟩ = some (.slice za ws.length zc)) (⟨a0, a1⟩) ?_
      repeat (first
        | (refine Lex.skips (by rfl) ?_; (try simp only [Act.put, List.setIfInBounds_toArray, List.set_cons_zero, List.set_cons_succ]))
        | (refine Lex.quiet (v := ?_) (by rfl) (by rfl) ?_ ?_; rotate_left; (focus (intro w' hS'; go_simp; try rfl)); (try simp only [Act.put, List.setIfInBounds_toArray, List.set_cons_zero, List.set_cons_succ])))
      refine Lex.loud (by rfl) (by rfl) ?_
      intro K' hK'
      go_simp
      rcases hwh with ⟨c0, -, hc0, hpo⟩ | ⟨g0, g1, g2, rfl, g4, hpo⟩
      · refine (HS2.out.k.put f za zc ws A2.out HA.out.lt (by omega) HA.out.old hpo).mono ?_
        rintro e w5 ⟨rfl, s3, k3⟩
        have HS3 := Lib.hid (HS2.out.go k3)
        clear k3 a0 a1 hpo
        obtain ⟨a0, a1, -⟩ := HA.out.stays _ HS3.out.k.fr
        refine hK' _ _ (⟨a0, a1⟩) ?_
        clear hK'
        try simp only [Act.put, List.setIfInBounds_toArray, List.set_cons_zero, List.set_cons_succ]
        repeat (first
          | (refine Lex.skips (by rfl) ?_; (try simp only [Act.put, List.setIfInBounds_toArray, List.set_cons_zero, List.set_cons_succ]))
          | (refine Lex.quiet (v := ?_) (by rfl) (by rfl) ?_ ?_; rotate_left; (focus (intro w' hS'; go_simp; try rfl)); (try simp only [Act.put, List.setIfInBounds_toArray, List.set_cons_zero, List.set_cons_succ])))
        refine Lex.done ?_
        refine Lex.ends ?_
        clear a0 a1
        have hc1 : (c0 == 0) = false := by rw [beq_eq_false_iff_ne]; exact hc0
        clear hc0
        go_wp2_with fail
        refine HS3.out.k.next.mono ?_
        rintro e w6 ⟨rfl, s4, k4⟩
        have HS4 := Lib.hid (HS3.out.go k4)
        clear k4
        go_wp2_with fail
        go_roundw
        case rel => exact ⟨i + 1, P, s4, by go_num, by omega, HS4.out⟩
        case measure => first | (simp [intOf]; done) | (simp [intOf]; omega)
      · obtain ⟨m, rfl⟩ : ∃ m : Nat, f = m := ⟨f.toNat, by omega⟩
        simp only [Int.toNat_natCast] at hpo
        have C := HS2.out.k.put m za zc ws A2.out HA.out.lt (by omega) HA.out.old hpo
        rw [show ((adr (flat P).length : Nat) : Int) = 4294967296 + 4 * ((flat P).length : Int) from by unfold adr; omega] at C
        refine C.mono ?_
        clear C
        rintro e w5 ⟨rfl, s3, k3⟩
        have HS3 := Lib.hid (HS2.out.go k3)
        have hfo : firstOf 0 P m = 0 := by
          have hnd := HS3.out.k.ok.nd
          rw [List.map_append, List.nodup_append] at hnd
          have := (addr_first hnd.1 HSP.out).1
          simpa using this
        obtain ⟨cells, hfb, hcl⟩ := HS3.out.fst
        have cf : w5.cell? ⟨fb, m, none⟩ = some (.int .i64 0) := by
          have := cell_of_heap hfb (hcl m (by omega))
          rwa [hfo] at this
        have zf : w5.frozen? ⟨fb, m, none⟩ = false := frozen_of_heap hfb
        clear k3 a0 a1 hpo hfb hcl hfo
        obtain ⟨a0, a1, -⟩ := HA.out.stays _ HS3.out.k.fr
        refine hK' _ _ (⟨a0, a1⟩) ?_
        clear hK'
        try simp only [Act.put, List.setIfInBounds_toArray, List.set_cons_zero, List.set_cons_succ]
        repeat (first
          | (refine Lex.skips (by rfl) ?_; (try simp only [Act.put, List.setIfInBounds_toArray, List.set_cons_zero, List.set_cons_succ]))
          | (refine Lex.quiet (v := ?_) (by rfl) (by rfl) ?_ ?_; rotate_left; (focus (intro w' hS'; go_simp; try rfl)); (try simp only [Act.put, List.setIfInBounds_toArray, List.set_cons_zero, List.set_cons_succ])))
        refine Lex.done ?_
        refine Lex.ends ?_
        have y2 : IntKind.u64.wrap ((flat P).length : Int) = (flat P).length := by simp [IntKind.wrap, IntKind.bits, IntKind.signed]; omega
        have y3 : IntKind.u64.wrap (4 * ((flat P).length : Int)) = 4 * (flat P).length := by simp [IntKind.wrap, IntKind.bits, IntKind.signed]; omega
        have y4 : IntKind.u64.wrap (4294967296 + 4 * ((flat P).length : Int)) = 4294967296 + 4 * ((flat P).length : Int) := by simp [IntKind.wrap, IntKind.bits, IntKind.signed]; omega
        have hm64 : (m : Int) < 64 := by omega
        go_wp2_with fail
        have hst4 := HS3.out.put1 (f := m) (v := (flat P).length + 1) (by omega)
        rw [show (((flat P).length + 1 : Nat) : Int) = ((flat P).length : Int) + 1 from by omega] at hst4
        generalize hw6 : w5.setCell ⟨fb, m, none⟩ (.int .i64 (((flat P).length : Int) + 1)) = w6 at hst4 ⊢
        have HS4 := Lib.hid hst4
        have HW6 := Lib.hid hw6
        have HWL := Lib.hid (whos_len P)
        clear hst4 a0 a1 cf zf y2 y3 y4 hw6
        go_loopw [8, 9, 15] (fun x y z wr => ∃ k : Nat, z = .int .i64 k ∧ k ≤ ws.length ∧ St w1 wr words (P ++ [(m, ws)]) s3 s.b x y (flat P ++ ws.take k) (whos P ++ List.replicate k m) fb (fun g => if g = m then (flat P).length + 1 else firstOf 0 P g)) (fun _ _ z _ => (ws.length - intOf z).toNat)
        case atStart => exact ⟨0, rfl, by omega, by simpa using HS4.out⟩
        case round =>
          obtain ⟨k, rfl, hk, hst⟩ := hrel
          obtain ⟨pa, pc, rfl⟩ := owns_shape hst.all
          obtain ⟨qa, qc, rfl⟩ := owns_shape hst.who
          have hal : (flat P ++ ws.take k).length = (flat P).length + k := by simp; omega
          have hwl2 : (whos P ++ List.replicate k m).length = (flat P).length + k := by simp [HWL.out]
          have HAL := Lib.hid hal
          have HWL2 := Lib.hid hwl2
          rw [hal, hwl2] at hst ⊢
          have HI1 := Lib.hid hst
          have hall := hst.all
          rw [hal] at hall
          clear hst hal hwl2
          obtain ⟨a0, a1, a2⟩ := HA.out.stays _ HI1.out.k.fr
          have A3 := Lib.hid a2
          clear a2
          by_cases hkl : k < ws.length
          · obtain ⟨zb, zo, rfl, ck⟩ := reads_u32 A3.out hkl
            have hkl' : (k : Int) < ws.length := by omega
            have HAll := Lib.hid (hall.alloc (.cells #[.int .u32 (ws[k] : Nat)] 52))
            clear hall
            generalize hxk : ws[k] = xk at *
            go_upto_region 26 with (at_builtin; (refine wpList_append_at rfl _ _ 23 rfl w1.heap.size 52 (.int .u32 0) 1 4 Try.underlying23 Try.info52 rfl (by decide) _ ((flat P).length + k) _ rfl HAll.out 1 [.int .u32 (xk : Nat)] (reads_one _ _ _) int_one (by unfold maxLen; omega) (by omega) (by have := HI1.out.k.fr.size; simp; omega) ?_); intro ga gc w8 ho8 hg8 hb8)
            have HI2 := Lib.hid ((HI1.out.stay ((Fr.refl no wr).alloc (.cells #[.int .u32 (xk : Nat)] 52))).appA (va' := .slice ga ((flat P).length + k + 1) gc) (x := xk) (by rw [HAL.out]; exact ho8) hg8 hb8)
            have hwho := HI2.out.who
            rw [HWL2.out] at hwho
            have HWho := Lib.hid (hwho.alloc (.cells #[.int .i64 (m : Int)] 3))
            clear hwho ho8 hg8 hb8 a0 a1 ck
            obtain ⟨a0, a1, -⟩ := HA.out.stays _ HI2.out.k.fr
            go_wp2_with (at_builtin; (refine wpList_append_at rfl _ _ 71 rfl w1.heap.size 3 (.int .i64 0) 1 8 Try.underlying71 Try.info3 rfl (by decide) _ ((flat P).length + k) _ rfl HWho.out 1 [.int .i64 (m : Int)] (reads_one _ _ _) int_one (by unfold maxLen; omega) (by omega) (by have := HI2.out.k.fr.size; simp; omega) ?_); intro ha hc w9 ho9 hg9 hb9)
            have HI3 := Lib.hid ((HI2.out.stay ((Fr.refl no w8).alloc (.cells #[.int .i64 (m : Int)] 3))).appW (vw' := .slice ha ((flat P).length + k + 1) hc) (x := m) (by rw [HWL2.out]; exact ho9) hg9 hb9)
            clear ho9 hg9 hb9 a0 a1
            go_roundw
            case rel =>
              refine ⟨k + 1, by go_num, by omega, ?_⟩
              rw [List.take_succ_eq_append_getElem hkl, hxk, ← List.append_assoc, List.replicate_succ', ← List.append_assoc]
              exact HI3.out
            case measure => first | (simp [intOf]; done) | (simp [intOf]; omega)
          · obtain rfl : k = ws.length := by omega
            have HI2 : Hid (St w1 wr words (P ++ [(m, ws)]) s3 s.b (.slice pa ((flat P).length + ws.length) pc) (.slice qa ((flat P).length + ws.length) qc) (flat (P ++ [(m, ws)])) (whos (P ++ [(m, ws)])) fb (firstOf 0 (P ++ [(m, ws)]))) := by
              refine Lib.hid ?_
              have h := HI1.out
              rw [List.take_length] at h
              rw [flat_app, flat_one, whos_app]
              have hnd := h.k.ok.nd
              rw [List.map_append, List.nodup_append] at hnd
              have e : firstOf 0 (P ++ [(m, ws)]) = fun g => if g = m then (flat P).length + 1 else firstOf 0 P g := by
                funext g
                rw [firstOf_app P 0 m g ws (fun hm => hnd.2.2 m hm m (by simp) rfl), Nat.zero_add]
              rw [e]
              exact h
            have hpl2 : (flat (P ++ [(m, ws)])).length = (flat P).length + ws.length := by rw [flat_app, flat_one, List.length_append]
            have HPL2 := Lib.hid hpl2
            have y5 : IntKind.i64.wrap ((words : Int) - ((flat P).length + ws.length)) = (words : Int) - ((flat P).length + ws.length) := by rw [IntKind.wrap_i64]; omega
            clear hpl2 hall
            go_wp2_with fail
            clear a0 a1
            have C := HI2.out.k.code
            rw [HPL2.out] at C
            refine C.mono ?_
            clear C
            rintro e w9 ⟨ia, ic, rfl, s5, k5, hh5⟩
            have HI3 := Lib.hid (HI2.out.go k5)
            have HH5 := Lib.hid hh5
            clear k5 hh5
            go_wp2_with fail
            refine (same_words _ _ _ (flat (P ++ [(m, ws)])) (flat (P ++ [(m, ws)])) (by rw [HPL2.out]; exact owns_reads HH5.out.z.owns) (by have := owns_reads HI3.out.all; rw [HPL2.out] at this ⊢; exact this) (by rw [HPL2.out]; omega)).mono ?_
            rintro e wa ⟨rfl, q, hwa⟩
            rw [decide_eq_true rfl]
            have HI4 := Lib.hid (HI3.out.stay (show Fr no w9 wa from by rw [hwa]; exact (Fr.refl _ w9).drewN q))
            clear hwa
            go_wp2_with fail
            have C := HI4.out.k.left
            rw [HPL2.out, show (words : Int) - (((flat P).length + ws.length : Nat) : Int) = (words : Int) - ((flat P).length + ws.length) from by omega] at C
            refine C.mono ?_
            clear C
            rintro e wb ⟨rfl, s6, k6⟩
            have HI5 := Lib.hid (HI4.out.go k6)
            clear k6
            go_wp2_with fail
            go_roundw
            case rel => exact ⟨i + 1, P ++ [(m, ws)], s6, by go_num, by omega, HI5.out⟩
            case measure => first | (simp [intOf]; done) | (simp [intOf]; omega)
    · obtain rfl : i = L.length := by omega
      go_wp2_with fail
      clear hlt
      have hwl := whos_len P
      have HWL := Lib.hid hwl
      clear hwl
      go_loopw [16] (fun z wr2 => ∃ (j : Nat) (s2 : CS), z = .int .i64 j ∧ j ≤ (flat P).length ∧ St w1 wr2 words P s2 s.b (.slice xa (flat P).length xc) (.slice ya (flat P).length yc) (flat P) (whos P) fb (firstOf 0 P)) (fun z _ => ((flat P).length - intOf z).toNat)
      case atStart => exact ⟨0, s1, rfl, by omega, HST.out⟩
      case round =>
        obtain ⟨j, s2, rfl, hj, hst⟩ := hrel
        have HS2 := Lib.hid hst
        clear hst
        by_cases hjl : j < (flat P).length
        · have hjl' : (j : Int) < (flat P).length := by omega
          have hjw : j < (whos P).length := by rw [HWL.out]; exact hjl
          have hwr := owns_reads HS2.out.who
          rw [HWL.out] at hwr
          obtain ⟨qb, qo, rfl, cw⟩ := hwr.at1 (k := j) (u := .int .i64 ((whos P)[j] : Nat)) (by simp [i64s, hjw])
          have HF1 := Lib.hid (show findOf P (adr j) = ((((whos P)[j] : Nat) : Int), true) from by rw [find_in P j hjl, who_get P j hjw])
          have HF2 := Lib.hid (show findOf P (adr j + 1) = (-1, false) from find_odd P _ (by unfold adr; omega))
          generalize (whos P)[j] = wj at *
          have y2 : IntKind.u64.wrap (j : Int) = j := by simp [IntKind.wrap, IntKind.bits, IntKind.signed]; omega
          have y3 : IntKind.u64.wrap (4 * (j : Int)) = 4 * j := by simp [IntKind.wrap, IntKind.bits, IntKind.signed]; omega
          have y4 : IntKind.u64.wrap (4294967296 + 4 * (j : Int)) = 4294967296 + 4 * (j : Int) := by simp [IntKind.wrap, IntKind.bits, IntKind.signed]; omega
          have y5 : IntKind.u64.wrap (4294967296 + 4 * (j : Int) + 1) = 4294967296 + 4 * (j : Int) + 1 := by simp [IntKind.wrap, IntKind.bits, IntKind.signed]; omega
          clear hjw hwr
          go_wp2_with fail
          have C := HS2.out.k.finds (adr j) wj true HF1.out
          rw [show ((adr j : Nat) : Int) = 4294967296 + 4 * (j : Int) from by unfold adr; omega] at C
          refine C.mono ?_
          clear C
          rintro e w4 ⟨rfl, s3, k3⟩
          have HS3 := Lib.hid (HS2.out.go k3)
          clear k3 cw
          go_wp2_with fail
          have C := HS3.out.k.finds (adr j + 1) (-1) false HF2.out
          rw [show ((adr j + 1 : Nat) : Int) = 4294967296 + 4 * (j : Int) + 1 from by unfold adr; omega] at C
          refine C.mono ?_
          clear C
          rintro e w5 ⟨rfl, s4, k4⟩
          have HS4 := Lib.hid (HS3.out.go k4)
          clear k4
          go_wp2_with fail
          go_roundw
          case rel => exact ⟨j + 1, s4, by go_num, by omega, HS4.out⟩
          case measure => first | (simp [intOf]; done) | (simp [intOf]; omega)
        · obtain rfl : j = (flat P).length := by omega
          go_wp2_with fail
          clear hjl
          go_loopw [17] (fun z wr3 => ∃ (f : Nat) (s3 : CS), z = .int .i64 f ∧ f ≤ 64 ∧ St w1 wr3 words P s3 s.b (.slice xa (flat P).length xc) (.slice ya (flat P).length yc) (flat P) (whos P) fb (firstOf 0 P)) (fun z _ => (64 - intOf z).toNat)
          case atStart => exact ⟨0, s2, rfl, by omega, HS2.out⟩
          case round =>
            obtain ⟨f, s3, rfl, hf, hst⟩ := hrel
            have HS3 := Lib.hid hst
            clear hst
            by_cases hfl : f < 64
            · have hfl' : (f : Int) < 64 := by omega
              go_wp2_with fail
              refine (HS3.out.k.addr f).mono ?_
              rintro e w4 ⟨⟨ad, is, hsp, rfl⟩, s4, k4⟩
              obtain ⟨q1, q2⟩ := addr_first HS3.out.k.ok.nd hsp
              have HS4 := Lib.hid (HS3.out.go k4)
              obtain ⟨cells, hfb, hcl⟩ := HS4.out.fst
              have cf : w4.cell? ⟨fb, f, none⟩ = some (.int .i64 (firstOf 0 P f : Nat)) := cell_of_heap hfb (hcl f hfl)
              clear k4 hsp hfb hcl
              have hfo : firstOf 0 P f ≤ 3000 := by have := firstOf_le P 0 f; omega
              generalize hfe : firstOf 0 P f = fo at *
              have HFE := Lib.hid hfe
              clear hfe
              cases is with
              | true =>
                have hpos : 0 < fo := by simpa using q1
                have hpos' : (0 : Int) < fo := by omega
                have hadr := q2 rfl
                rw [hadr, show ((adr (fo - 1) : Nat) : Int) = 4294967296 + 4 * ((fo : Int) - 1) from by unfold adr; omega]
                have y1 : IntKind.i64.wrap ((fo : Int) - 1) = (fo : Int) - 1 := by rw [IntKind.wrap_i64]; omega
                have y2 : IntKind.u64.wrap ((fo : Int) - 1) = (fo : Int) - 1 := by simp [IntKind.wrap, IntKind.bits, IntKind.signed]; omega
                have y3 : IntKind.u64.wrap (4 * ((fo : Int) - 1)) = 4 * ((fo : Int) - 1) := by simp [IntKind.wrap, IntKind.bits, IntKind.signed]; omega
                have y4 : IntKind.u64.wrap (4294967296 + 4 * ((fo : Int) - 1)) = 4294967296 + 4 * ((fo : Int) - 1) := by simp [IntKind.wrap, IntKind.bits, IntKind.signed]; omega
                clear q1 q2 hadr hpos
                go_wp2_with fail
                go_roundw
                case rel => exact ⟨f + 1, _, by go_num, by omega, HS4.out⟩
                case measure => first | (simp [intOf]; done) | (simp [intOf]; omega)
              | false =>
                have hz : fo = 0 := by
                  have : ¬ 0 < fo := by simpa using q1
                  omega
                subst hz
                clear q1 q2
                go_wp2_with fail
                go_roundw
                case rel => exact ⟨f + 1, _, by go_num, by omega, HS4.out⟩
                case measure => first | (simp [intOf]; done) | (simp [intOf]; omega)
            · obtain rfl : f = 64 := by omega
              have y2 : IntKind.u64.wrap ((flat P).length : Int) = (flat P).length := by simp [IntKind.wrap, IntKind.bits, IntKind.signed]; omega
              have y3 : IntKind.u64.wrap (4 * ((flat P).length : Int)) = 4 * (flat P).length := by simp [IntKind.wrap, IntKind.bits, IntKind.signed]; omega
              have y4 : IntKind.u64.wrap (4294967296 + 4 * ((flat P).length : Int)) = 4294967296 + 4 * ((flat P).length : Int) := by simp [IntKind.wrap, IntKind.bits, IntKind.signed]; omega
              go_wp2_with fail
              have C := HS3.out.k.finds (adr (flat P).length) (-1) false (find_end P)
              rw [show ((adr (flat P).length : Nat) : Int) = 4294967296 + 4 * ((flat P).length : Int) from by unfold adr; omega] at C
              refine C.mono ?_
              clear C
              rintro e w4 ⟨rfl, s4, k4⟩
              have HS4 := Lib.hid (HS3.out.go k4)
              clear k4
              go_wp2_with fail
              refine (HS4.out.k.finds 4294967292 (-1) false (find_low4 P)).mono ?_
              rintro e w5 ⟨rfl, s5, k5⟩
              have HS5 := Lib.hid (HS4.out.go k5)
              clear k5
              go_wp2_with fail
              go_ret
              exact ⟨rfl, FIN.out _ HS5.out.k.fr⟩

end Go.Proofs.Ytpgmfifieilhkaa

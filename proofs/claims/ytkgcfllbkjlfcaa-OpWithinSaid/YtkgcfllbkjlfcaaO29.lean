import Derived.Test.YtkgcfllbkjlfcaaO28
namespace Go.Proofs.Ytkgcfllbkjlfcaa
open Go.RowKit

attribute [local go_sem] Program.isFuncB Program.isSliceB

variable {w w' w'' w0 : World}

set_option maxRecDepth 100000 in
set_option maxHeartbeats 8000000 in
theorem opwithin_ok (w : World) (o A B C N regs area more wider : Int) (u : Value) (l : List Int) (hu : Reads w u 1 l.length (ints l)) (hl : l.length ≤ 9223372036854775807)
    (h1 : (Lit.int .i64 regs).wf = true) (h2 : (Lit.int .i64 area).wf = true) (h3 : (Lit.int .i64 more).wf = true) (h4 : (Lit.int .i64 wider).wf = true) :
    Calls Try.prog 7 #[insV o A B C N u, .int .i64 regs, .int .i64 area, .int .i64 more, .int .i64 wider] w fun e w' => e = .returned (.bool true) ∧ Fr no w w' := by
  obtain ⟨ua, uc, rfl⟩ := hu.shape
  have HOB0 := Lib.hid (insObj w o A B C N (.slice ua l.length uc))
  have R0 : Hid (Fr no w (w.alloc (.cells #[.int .i64 o, .int .i64 A, .int .i64 B, .int .i64 C, .int .i64 N, .slice ua l.length uc] 30))) := Lib.hid ((Fr.refl no w).alloc _)
  have HU := Lib.hid hu
  have P1 := Lib.hid (fun w => pick_any w regs 65 h1 (by omega) (by omega))
  have P2 := Lib.hid (fun w => pick_any w area 4097 h2 (by omega) (by omega))
  have Q1 := Lib.hid h3
  have Q2 := Lib.hid h4
  clear hu h1 h2 h3 h4
  unfold insV
  go_enter Try.func7, Try.ntmps7
  go_wp2_with fail
  refine (awake_ok _).mono ?_
  rintro e w1 ⟨rfl, r1⟩
  have HI1 := Lib.hid (r1.heap HOB0.out (by simp))
  have R1 := Lib.hid (R0.out.trans r1)
  clear r1
  go_wp2_with fail
  refine (P1.out _).mono ?_
  rintro e w' ⟨⟨kr, hkr, rfl⟩, rfl⟩
  go_wp2_with fail
  refine (P2.out _).mono ?_
  rintro e w' ⟨⟨ka, hka, rfl⟩, rfl⟩
  obtain ⟨c0, c1, c2, c3, c4, c5⟩ := cells6 HI1.out
  by_cases hlen : (60 : Int) < l.length
  · go_wp2_with fail
    go_ret
    exact ⟨rfl, R1.out⟩
  have hl60 : l.length ≤ 60 := by omega
  have CH := Lib.hid (fun w (h : Reads w (.slice ua l.length uc) 1 l.length (ints l)) => check_ok w o A B C N kr ka (.slice ua l.length uc) l h (by omega))
  unfold insV at CH
  go_wp2_with fail
  refine (CH.out _ (HU.out.fr R1.out (by simp))).mono ?_
  rintro e w2 ⟨rfl, r2⟩
  have HI2 := Lib.hid (r2.heap HI1.out (by simp))
  have R2 := Lib.hid (R1.out.trans r2)
  clear r2 c0 c1 c2 c3 c4 c5
  by_cases hck : checkOf o A B C N l kr ka = 0
  case neg =>
    have hne : (checkOf o A B C N l kr ka != 0) = true := by simpa using hck
    clear hck CH
    generalize checkOf o A B C N l kr ka = ck at *
    go_wp2_with fail
    go_ret
    exact ⟨rfl, R2.out⟩
  have FN := Lib.hid ((fine_iff _ _ _ _ _ _ _ _).1 hck)
  have hne : (checkOf o A B C N l kr ka != 0) = false := by simpa using hck
  generalize checkOf o A B C N l kr ka = ck at hne ⊢
  clear hck CH
  obtain ⟨c0, c1, c2, c3, c4, c5⟩ := cells6 HI2.out
  go_upto_region 5 with (fail)
  have r3 := (Fr.refl no w2).alloc (.cells #[] 3)
  have HI3 := Lib.hid (r3.heap HI2.out (by simp))
  have R3 := Lib.hid (R2.out.trans r3)
  have HO3 := Lib.hid (owns_new w2 3 1)
  have hs3 : (w2.alloc (.cells #[] 3)).heap.size = w2.heap.size + 1 := by simp
  have HS3 := Lib.hid hs3
  have hb3 : w.heap.size < w2.heap.size := (Array.getElem?_eq_some_iff.1 HI2.out).1
  have HB3 := Lib.hid hb3
  clear r3 c0 c1 c2 c3 c4 c5 hs3 hb3
  obtain ⟨c0, c1, c2, c3, c4, c5⟩ := cells6 HI3.out
  have RD := Lib.hid (fun w (h : Reads w (.slice ua l.length uc) 1 l.length (ints l)) => reads_ok w o A B C N (.slice ua l.length uc) l h (by omega))
  unfold insV at RD
  go_wp2_with fail
  refine (RD.out _ (HU.out.fr R3.out (by simp))).mono ?_
  rintro e w4 ⟨rv, rfl, hr, r4⟩
  obtain ⟨ra, rc, rfl⟩ := owns_shape hr
  have HR4 := Lib.hid (owns_reads hr)
  have HI4 := Lib.hid (r4.heap HI3.out (by simp))
  have R4 := Lib.hid (R3.out.trans r4)
  have HO4 := Lib.hid (owns_fr HO3.out r4 (by simp))
  have HZ4 := Lib.hid (show w2.heap.size ≤ w4.heap.size from by have := r4.size; have := HS3.out; omega)
  have RIN := Lib.hid (fine_reads FN.out)
  have hrl : (readsOf o A B C l).length ≤ 70 := by
    unfold readsOf
    rw [List.length_append]
    have := (fields_few o A B C).2
    split
    · omega
    · simp; omega
  have HRL := Lib.hid hrl
  have HT := Lib.hid (fine_target FN.out)
  generalize readsOf o A B C l = rl at *
  clear r4 hr RD c0 c1 c2 c3 c4 c5
  obtain ⟨c0, c1, c2, c3, c4, c5⟩ := cells6 HI4.out
  have WR := Lib.hid (fun w => writes_ok w o A B C N (.slice ua l.length uc))
  unfold insV at WR
  go_upto_region 6 with (at_builtin; go_must (refine wpList_append_at rfl (.tmp 32) _ 28 rfl w2.heap.size 3 (.int .i64 0) 1 8 Try.underlying28 Try.infoInt rfl (by decide) _ 0 _ rfl HO4.out rl.length _ HR4.out (ints_one' rl) (by unfold maxLen; omega) (by omega) HZ4.out ?_); intro ga gc w5 ho hg hb)
  have r5 := (Fr.refl (fun k => k = w2.heap.size) w4).grown hg (fun k hk => .inl (by cases hk; rfl))
  have HI5 := Lib.hid (r5.heap HI4.out (by have := HB3.out; omega))
  have R5 := Lib.hid (R4.out.trans' r5 (fun k hk _ => by have := HB3.out; omega))
  have HO5 : Hid (w5.ownsRow w2.heap.size 3 1 (.slice ga rl.length gc) rl.length (ints rl)) := Lib.hid (by simpa using ho)
  have HZ5 := Lib.hid (show w2.heap.size ≤ w5.heap.size from by have := r5.size; have := HZ4.out; omega)
  simp only [Nat.zero_add] at *
  clear r5 ho hg hb c0 c1 c2 c3 c4 c5
  obtain ⟨c0, c1, c2, c3, c4, c5⟩ := cells6 HI5.out
  have hwc := RIN.out.2
  generalize (fieldsOf [A, B, C] (sh o)).2.2 = wv at *
  have HRI := Lib.hid RIN.out.1
  rcases hwc with hwv | ⟨hwv1, hwv2⟩
  case' inl =>
    subst hwv
    go_wp2_with fail
    refine (WR.out _).mono ?_
    rintro e w6 ⟨rfl, r6⟩
    have HI6 := Lib.hid (r6.heap HI5.out (by simp))
    have R6 := Lib.hid (R5.out.trans r6)
    have HV6 := Lib.hid (owns_reads (owns_fr HO5.out r6 (by simp)))
    clear r6 c0 c1 c2 c3 c4 c5
    go_wp2_with fail
    obtain ⟨L, hL⟩ : ∃ L, L = rl := ⟨_, rfl⟩
    have HL : Hid (∀ x ∈ L, 0 ≤ x ∧ x < (kr : Int)) := Lib.hid (by rw [hL]; exact HRI.out)
    have HLL : Hid (L.length ≤ 100) := Lib.hid (by rw [hL]; have := HRL.out; omega)
    subst hL
  case' inr =>
    go_wp2_with fail
    refine (WR.out _).mono ?_
    rintro e w5b ⟨rfl, r6⟩
    have HI5b := Lib.hid (r6.heap HI5.out (by simp))
    have R5b := Lib.hid (R5.out.trans r6)
    have HO5b := Lib.hid (owns_fr HO5.out r6 (by simp))
    have HZ5b := Lib.hid (show w2.heap.size ≤ w5b.heap.size from by have := r6.size; have := HZ5.out; omega)
    clear r6 c0 c1 c2 c3 c4 c5
    obtain ⟨c0, c1, c2, c3, c4, c5⟩ := cells6 HI5b.out
    go_wp2_with fail
    refine (WR.out _).mono ?_
    rintro e w5c ⟨rfl, r6⟩
    have r6' := r6.alloc (.cells #[.int .i64 wv] 3)
    have HI5c := Lib.hid (r6'.heap HI5b.out (by simp))
    have R5c := Lib.hid (R5b.out.trans r6')
    have HO5c := Lib.hid (owns_fr HO5b.out r6' (by simp))
    have HZ5c := Lib.hid (show w2.heap.size ≤ (w5c.alloc (.cells #[.int .i64 wv] 3)).heap.size from by have := r6'.size; have := HZ5b.out; omega)
    clear r6 r6' c0 c1 c2 c3 c4 c5
    go_wp2_with (at_builtin; go_must (refine wpList_append_at rfl (.tmp 39) _ 28 rfl w2.heap.size 3 (.int .i64 0) 1 8 Try.underlying28 Try.infoInt rfl (by decide) _ rl.length _ rfl HO5c.out 1 [.int .i64 wv] (reads_one _ _ _) int_one (by have := HRL.out; unfold maxLen; omega) (by have := HRL.out; omega) HZ5c.out ?_); intro ga2 gc2 w6 ho hg hb)
    have r6 := (Fr.refl (fun k => (Value.slice ga rl.length gc).ownBlock = some k) (w5c.alloc (.cells #[.int .i64 wv] 3))).grown hg (fun k hk => .inl hk)
    have hge := fun k (hk : (Value.slice ga rl.length gc).ownBlock = some k) => (HO5c.out.lt k hk).1
    have HI6 := Lib.hid (r6.heap HI5c.out (fun hk => by have := HB3.out; have := hge _ hk; omega))
    have R6 := Lib.hid (R5c.out.trans' r6 (fun k hk _ => by have := HB3.out; have := hge _ hk; omega))
    obtain ⟨L, hL⟩ : ∃ L, L = rl ++ [wv] := ⟨_, rfl⟩
    have hLl : rl.length + 1 = L.length := by rw [hL]; simp
    have HV6 : Hid (Reads w6 (.slice ga2 L.length gc2) 1 L.length (ints L)) := Lib.hid (by have := owns_reads ho; rw [← hLl, hL]; simpa [ints] using this)
    have HL : Hid (∀ x ∈ L, 0 ≤ x ∧ x < (kr : Int)) := Lib.hid (by
      rw [hL]
      intro x hx
      rcases List.mem_append.1 hx with h | h
      · exact HRI.out x h
      · simp at h; subst h; exact ⟨hwv1, hwv2⟩)
    have HLL : Hid (L.length ≤ 100) := Lib.hid (by rw [hL]; have := HRL.out; simp; omega)
    rw [hLl]
    clear ho hg hb r6 hge hL hLl
    go_wp2_with fail
  all_goals
    have hLL := HLL.out
    go_loop [13] (fun x => ∃ i : Nat, x = .int .i64 i ∧ i ≤ L.length) (fun x => (L.length - intOf x).toNat)
    case atStart => exact ⟨0, rfl, by omega⟩
    case round =>
      obtain ⟨i, rfl, hi⟩ := hrel
      by_cases hlt : i < L.length
      · have hlt' : (i : Int) < L.length := by omega
        obtain ⟨b, o1, rfl, ci⟩ := reads_int HV6.out hlt
        have hr := HL.out L[i] (List.getElem_mem _)
        generalize L[i] = n at *
        have g1 : ¬ n < 0 := by omega
        have g2 : ¬ (kr : Int) ≤ n := by omega
        clear hr
        go_wp2_with fail
        go_round
        case rel => exact ⟨i + 1, by go_num, by omega⟩
        case measure => first | (simp [intOf]; done) | (simp [intOf]; omega)
      · obtain rfl : i = L.length := by omega
        clear WR
        have PM := Lib.hid (fun w => pick_any w more (65 - kr) Q1.out (by omega) (by omega))
        have PW := Lib.hid (fun w => pick_any w wider (4097 - ka) Q2.out (by omega) (by omega))
        rw [show (((65 - kr : Nat)) : Int) = 65 - (kr : Int) from by omega] at PM
        rw [show (((4097 - ka : Nat)) : Int) = 4097 - (ka : Int) from by omega] at PW
        have TG := Lib.hid (fun w => target_ok w o A B C N (.slice ua l.length uc))
        have SM := Lib.hid (fun w (h : Reads w (.slice ua l.length uc) 1 l.length (ints l)) => by
          have := same_ok w o A B C N o A B C N (.slice ua l.length uc) (.slice ua l.length uc) l l h h hl hl
          rw [decide_eq_true ⟨rfl, rfl, rfl, rfl, rfl, rfl⟩] at this
          exact this)
        have CK := Lib.hid (fun w (x y : Nat) (hx : x < 65 - kr) (hy : y < 4097 - ka) (h : Reads w (.slice ua l.length uc) 1 l.length (ints l)) => by
          have := check_ok w o A B C N (kr + x) (ka + y) (.slice ua l.length uc) l h (by omega)
          rw [(fine_iff _ _ _ _ _ _ _ _).2 (fine_more FN.out (more := kr + x) (wider := ka + y) (by omega) (by omega) (by omega) (by omega))] at this
          exact this)
        have htg := HT.out
        generalize (if hasB (sh o) 116 = true then N else -1) = tg at *
        unfold insV at TG SM CK
        have HTG := Lib.hid htg
        clear htg hlt HT
        cases h25 : (o == 25)
        all_goals cases h26 : (o == 26)
        all_goals cases h27 : (o == 27)
        all_goals try (exfalso; simp only [beq_iff_eq, beq_eq_false_iff_ne, ne_eq] at h25 h26 h27; omega)
        all_goals
          have htg := HTG.out
          rw [h25, h26, h27] at htg
          simp only [Bool.or_false, Bool.or_true, Bool.false_or, Bool.true_or, Bool.or_self, decide_eq_true_eq, decide_eq_false_iff_not] at htg
          obtain ⟨c0, c1, c2, c3, c4, c5⟩ := cells6 HI6.out
          go_wp2_with fail
          refine (PM.out _).mono ?_
          rintro e w' ⟨⟨k3, hk3, rfl⟩, rfl⟩
          go_wp2_with fail
          refine (PW.out _).mono ?_
          rintro e w' ⟨⟨k4, hk4, rfl⟩, rfl⟩
          go_wp2_with fail
          refine (TG.out _).mono ?_
          rintro e w7 ⟨rfl, r7⟩
          have HI7 := Lib.hid (r7.heap HI6.out (by simp))
          have R7 := Lib.hid (R6.out.trans r7)
          clear r7 c0 c1 c2 c3 c4 c5
          obtain ⟨c0, c1, c2, c3, c4, c5⟩ := cells6 HI7.out
          go_wp2_with fail
          refine (CK.out _ k3 k4 hk3 hk4 (HU.out.fr R7.out (by simp))).mono ?_
          rintro e w8 ⟨rfl, r8⟩
          have HI8 := Lib.hid (r8.heap HI7.out (by simp))
          have R8 := Lib.hid (R7.out.trans r8)
          clear r8 c0 c1 c2 c3 c4 c5
          obtain ⟨c0, c1, c2, c3, c4, c5⟩ := cells6 HI8.out
          go_wp2_with fail
          refine (SM.out _ (HU.out.fr R8.out (by simp))).mono ?_
          rintro e w9 ⟨rfl, r9⟩
          have R9 := Lib.hid (R8.out.trans r9)
          clear r9
          go_wp2_with fail
          go_ret
          first
          | exact ⟨rfl, R9.out⟩
          | exact ⟨congrArg Ending.returned (show Value.bool (!decide (0 ≤ tg)) = Value.bool true from by rw [decide_eq_false (show ¬ 0 ≤ tg from by omega)]; rfl), R9.out⟩

end Go.Proofs.Ytkgcfllbkjlfcaa

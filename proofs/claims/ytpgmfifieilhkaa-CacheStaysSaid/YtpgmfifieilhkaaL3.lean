import Derived.Test.YtpgmfifieilhkaaA1
namespace Go.Proofs.Ytpgmfifieilhkaa
open Go.RowKit

attribute [local go_sem] Program.isFuncB Program.isSliceB

variable {w w' w'' : World} {words : Nat} {P P' P'' : List (Nat × List Nat)} {s s' : CS} {r r' : RS}

theorem both_put (h : Both w words P s r) (k : CTo w w' words P s P' s') (k2 : RTo w' w'' words r P' r') : Both w'' words P' s' r' := by
  obtain ⟨h1, h2, h3⟩ := h.cache k
  refine ⟨h1.fr k2.fr h3, k2.at_, fun i hi hr => ?_⟩
  rcases k2.ft i hr with h4 | h4
  · exact h3 i hi h4
  · have := h1.lt i hi; omega

def far (B : Nat) : Nat → Prop := fun k => B ≤ k
theorem far_of {S : Nat → Prop} {B : Nat} (h : Fr S w w') (hS : ∀ k, S k → B ≤ k) : Fr (far B) w w' := h.mono fun k hk _ => hS k hk

/-- what the loop keeps -/
structure Loop (w0 w : World) (words : Nat) (P : List (Nat × List Nat)) (s : CS) (r : RS) (cb rb : Nat) : Prop where
  both : Both w words P s r
  cb : s.b = cb
  rb : r.b = rb
  new : ∀ k, foot s P k ∨ rfoot r k → w0.heap.size ≤ k
  fr : Fr (far w0.heap.size) w0 w

theorem Loop.alike {w0 : World} {cb rb : Nat} (h : Loop w0 w words P s r cb rb) (f : Int) (a : Nat) :
    Calls Try.prog 21 #[.pointer (some ⟨cb, 0, none⟩), .pointer (some ⟨rb, 0, none⟩), .int .i64 f, .int .u64 a] w fun e w' => e = .returned (.bool true) ∧ ∃ s', Loop w0 w' words P s' r cb rb := by
  have h2 := h.cb
  have h3 := h.rb
  subst h2 h3
  refine (alike_ok h.both f a).mono ?_
  rintro e w' ⟨rfl, s', k, b⟩
  refine ⟨rfl, s', b, k.b, rfl, fun i hi => ?_, h.fr.trans (far_of k.fr fun i hi => h.new i (.inl hi))⟩
  rcases hi with hi | hi
  · rcases k.ft i hi with h1 | h1
    · exact h.new i (.inl h1)
    · have := h.fr.size; omega
  · exact h.new i (.inr hi)

theorem Loop.drew {w0 : World} {cb rb : Nat} {S : Nat → Prop} (h : Loop w0 w words P s r cb rb) (k : Fr S w w') (hS : ∀ k, S k → ¬ foot s P k ∧ ¬ rfoot r k ∧ w0.heap.size ≤ k) : Loop w0 w' words P s r cb rb :=
  ⟨h.both.fr k (fun i hi hs => by
    rcases hi with hi | hi
    · exact (hS i hs).1 hi
    · exact (hS i hs).2.1 hi), h.cb, h.rb, h.new, h.fr.trans (far_of k fun i hi => (hS i hi).2.2)⟩

theorem Loop.puts {w0 : World} {cb rb : Nat} (h : Loop w0 w words P s r cb rb) (k : CTo w w' words P s P' s') (k2 : RTo w' w'' words r P' r') : Loop w0 w'' words P' s' r' cb rb := by
  have s1 := h.fr.size
  have s2 := k.fr.size
  refine ⟨both_put h.both k k2, k.b.trans h.cb, k2.b.trans h.rb, fun i hi => ?_, (h.fr.trans (far_of k.fr fun i hi => h.new i (.inl hi))).trans (far_of k2.fr fun i hi => h.new i (.inr hi))⟩
  rcases hi with hi | hi
  · rcases k.ft i hi with h1 | h1
    · exact h.new i (.inl h1)
    · omega
  · rcases k2.ft i hi with h1 | h1
    · exact h.new i (.inr h1)
    · omega

set_option maxRecDepth 100000 in
set_option maxHeartbeats 4000000 in
theorem script_ok (w : World) (room : Int) (_ : (Lit.int .i64 room).wf = true) {n : Nat} {d : Dt} (v : Value) (hv : Rd Try.prog w n 22 [v] d) (a : Nat) (_ : a < 18446744073709551616) (near : Int) (hnear : (Lit.int .i64 near).wf = true) :
    Calls Try.prog 4 #[.int .i64 room, v, .int .u64 a, .int .i64 near] w fun e w' => e = .returned (.bool true) ∧ Fr no w w' := by
  obtain ⟨L, sa, c, rfl, hLm, hL⟩ := acts_of hv
  have HL := Lib.hid hL
  have HLM := Lib.hid hLm
  clear hv hL
  by_cases hr : room < 0 ∨ 65536 < room
  · clear hLm
    go_enter Try.func4, Try.ntmps4
    go_wp2_with fail
    refine (new_no _ room hr).mono ?_
    rintro e w' ⟨rfl, rfl⟩
    go_wp2_with fail
    refine (ref_new_no _ room hr).mono ?_
    rintro e w' ⟨rfl, rfl⟩
    go_wp2_with fail
    refine (awake_ok _).mono ?_
    rintro e w9 ⟨rfl, r9⟩
    have F9 := Lib.hid r9
    clear r9
    go_wp2_with fail
    go_ret
    exact ⟨rfl, F9.out⟩
  obtain ⟨words, rfl⟩ : ∃ m : Nat, room = m := ⟨room.toNat, by omega⟩
  have hw : words ≤ 65536 := by omega
  have hLm' : L.length ≤ 9223372036854775807 := by unfold maxLen at hLm; omega
  clear hr hLm
  go_enter Try.func4, Try.ntmps4
  go_wp2_with fail
  refine (new_yes w words hw).mono ?_
  rintro e w1 ⟨s, rfl, h1, r1, n1⟩
  have H1 := Lib.hid h1
  have R1 := Lib.hid r1
  have N1 := Lib.hid n1
  clear h1 r1 n1
  go_wp2_with fail
  refine (ref_new_yes w1 words hw).mono ?_
  rintro e w2 ⟨r, rfl, h2, r2, n2⟩
  have HLP : Hid (Loop w w2 words [] s r s.b r.b) := by
    refine Lib.hid ⟨⟨H1.out.fr r2 (by simp), h2, fun k hk hr => ?_⟩, rfl, rfl, fun k hk => ?_, (R1.out.trans r2).to⟩
    · have q1 := H1.out.lt k hk
      have q2 := n2 k hr
      omega
    · rcases hk with hk | hk
      · exact N1.out k hk
      · have q2 := n2 k hk
        have q3 := R1.out.size
        omega
  have HL2 := Lib.hid (HL.out.fr HLP.out.fr (fun k hk => hk))
  clear h2 r2 n2
  go_wp2_with fail
  refine (long_ok w2 L sa c HLM.out HL2.out).mono ?_
  rintro e w' ⟨rfl, rfl⟩
  by_cases hlong : longOf L = true
  · rw [hlong]
    go_wp2_with fail
    refine (awake_ok _).mono ?_
    rintro e w9 ⟨rfl, r9⟩
    have F9 := Lib.hid ((HLP.out.fr.trans r9.to).mono (T := no) (fun k hk h2 => by unfold far at hk; omega))
    clear r9
    go_wp2_with fail
    go_ret
    exact ⟨rfl, F9.out⟩
  have hlong' : longOf L = false := by simpa using hlong
  have h60 : ∀ i (hi : i < L.length), L[i].2.length ≤ 60 := by
    unfold longOf at hlong'
    rw [Bool.or_eq_false_iff, List.any_eq_false] at hlong'
    intro i hi
    have h3 : ¬ 40 < L.length := by simpa using hlong'.2
    have h4 := hlong'.1 L[i] (List.mem_take_iff_getElem.2 ⟨i, by omega, rfl⟩)
    simpa using h4
  have H60 := Lib.hid h60
  rw [hlong']
  clear hlong hlong' h60
  go_wp2_with fail
  go_loopw [13] (fun x wr => ∃ i P' s' r', x = .int .i64 (i : Nat) ∧ i ≤ L.length ∧ Loop w wr words P' s' r' s.b r.b) (fun x _ => (L.length - intOf x).toNat)
  case atStart => exact ⟨0, [], s, r, rfl, by omega, HLP.out⟩
  case round =>
    obtain ⟨i, P, s1, r1, rfl, hi, hlp⟩ := hrel
    have HLP1 := Lib.hid hlp
    by_cases hlt : i < L.length
    · obtain ⟨b, o, xa, xc, ha⟩ := HL.out i hlt
      have h60 := H60.out i hlt
      generalize L[i].1 = f at ha h60
      generalize L[i].2 = ws at ha h60
      obtain rfl := ha.hsa
      have HA := Lib.hid ha
      have keep : ∀ w' : World, Fr (far w.heap.size) w w' → w'.cell? ⟨b, o + i * 2, none⟩ = some (.int .i64 f) ∧ w'.cell? ⟨b, o + i * 2 + 1, none⟩ = some (.slice xa ws.length xc) ∧ Reads w' (.slice xa ws.length xc) 1 ws.length (u32s ws) := fun w' hf =>
        have h := HA.out.fr hf (fun k hk => hk)
        ⟨h.hf, h.hw, h.r⟩
      have KEEP := Lib.hid keep
      have fra : Fr (far w.heap.size) w (wr.alloc (.cells #[] 52)) := HLP1.out.fr.alloc _
      obtain ⟨a0, a1, a2⟩ := keep _ fra
      have RD := Lib.hid a2
      have HO := Lib.hid (heap_new wr (.cells #[] 52))
      have hlt' : (i : Int) < L.length := by omega
      have sz := HLP1.out.fr.size
      clear ha hlp keep fra a2
      go_upto_region 11 with (at_builtin; refine wpList_append_fresh rfl _ _ 23 rfl 52 (.int .u32 0) 4 Try.underlying23 info52' rfl wr.heap.size rfl HO.out ws.length _ RD.out (by unfold maxLen; omega) (by omega) wr.heap.size (Nat.le_refl _) (by simp) ?_; intro ia ic w3 hz hf3)
      have f3 : Fr no wr w3 := ((Fr.refl no wr).alloc _).trans hf3
      have HLP2 := Lib.hid (HLP1.out.drew f3 (by simp))
      have HZ := Lib.hid hz
      have hzlt : ∀ k, (Value.slice ia ws.length ic).ownBlock = some k → wr.heap.size ≤ k ∧ k < w3.heap.size := hz.owns.lt
      have HZLT := Lib.hid hzlt
      clear a0 a1 hz hf3 f3 hzlt
      obtain ⟨a0, a1, a2⟩ := KEEP.out _ HLP2.out.fr
      clear a2
      go_wp2_with fail
      obtain ⟨p1, p2, P', hpo⟩ : ∃ p1 p2 P', putOf words P f ws = (p1, p2, P') := ⟨_, _, _, rfl⟩
      have HPO := Lib.hid hpo
      clear hpo
      have C := put_all HLP2.out.both.c f ia ic ws (owns_reads HZ.out.owns) HA.out.lt (by omega) (fun _ k hk hfo => by
        have h1 := HLP1.out.both.c.lt k hfo
        have h2 := (HZLT.out k hk).1
        omega)
      rw [HLP2.out.cb, HPO.out] at C
      refine C.mono ?_
      clear C
      rintro e w4 ⟨rfl, s2, k2⟩
      have fr4 := HLP2.out.fr.trans (far_of k2.fr fun i hi => HLP2.out.new i (.inl hi))
      have FR4 := Lib.hid fr4
      obtain ⟨q1, q2, q3⟩ := HLP2.out.both.cache k2
      have HR4 := Lib.hid q2
      have Z4 := Lib.hid (ownsZ_fr HZ.out k2.fr (fun k hk hfo => by
        have h1 := HLP1.out.both.c.lt k hfo
        have h2 := (HZLT.out k hk).1
        omega))
      have K2 := Lib.hid k2
      clear a0 a1 k2 fr4 q1 q2 q3
      go_wp2_with fail
      have fr5 := FR4.out.drew
      obtain ⟨a0, a1, a2⟩ := KEEP.out _ fr5
      refine Lex.region [11] [17] (by kernel_rfl) (by kernel_rfl) ?_
      refine Lex.opens (fun w' => w'.cell? ⟨b, o + i * 2, none⟩ = some (.int .i64 f) ∧ w'.cell? ⟨b, o + i * 2 + 1, none⟩ = some (.slice xa ws.length xc)) (⟨a0, a1⟩) ?_
      repeat (first
        | (refine Lex.skips (by rfl) ?_; (try simp only [Act.put, List.setIfInBounds_toArray, List.set_cons_zero, List.set_cons_succ]))
        | (refine Lex.quiet (v := ?_) (by rfl) (by rfl) ?_ ?_; rotate_left; (focus (intro w' hS'; go_simp; try rfl)); (try simp only [Act.put, List.setIfInBounds_toArray, List.set_cons_zero, List.set_cons_succ])))
      refine Lex.loud (by rfl) (by rfl) ?_
      intro K' hK'
      go_simp
      have RR := HR4.out
      have hr5 : RefAt w4.drew words P r1 := ⟨((Fr.refl no w4).drew).heap RR.obj (by simp), owns_fr RR.wds ((Fr.refl no w4).drew) (by simp), owns_fr RR.rows ((Fr.refl no w4).drew) (by simp), RR.ok⟩
      have C := ref_put_all hr5 f xa xc ws a2 HA.out.lt (by omega) (fun hne k hk hfo => by
        have h1 := HA.out.old hne k hk
        have h2 := HLP2.out.new k (.inr hfo)
        omega)
      rw [HLP2.out.rb, HPO.out] at C
      refine C.mono ?_
      clear C
      rintro e w5 ⟨rfl, r2, k2⟩
      have k3 : RTo w4 w5 words r1 P' r2 := ⟨k2.at_, k2.b, k2.ft, ((Fr.refl _ w4).drew).trans k2.fr⟩
      have HLP3 := Lib.hid (HLP2.out.puts K2.out k3)
      have Z5 := Lib.hid (ownsZ_fr Z4.out k3.fr (fun k hk hfo => by
        have h1 := HLP1.out.both.f.lt k hfo
        have h2 := (HZLT.out k hk).1
        omega))
      have APART : Hid (∀ k, (Value.slice ia ws.length ic).ownBlock = some k → ¬ foot s2 P' k ∧ ¬ rfoot r2 k ∧ w.heap.size ≤ k) := Lib.hid fun k hk => by
        obtain ⟨h1, h2⟩ := HZLT.out k hk
        refine ⟨fun h => ?_, fun h => ?_, by omega⟩
        · rcases K2.out.ft k h with h3 | h3
          · have := HLP1.out.both.c.lt k h3; omega
          · omega
        · rcases k3.ft k h with h3 | h3
          · have := HLP1.out.both.f.lt k h3; omega
          · have := K2.out.fr.size; omega
      clear k2 k3 hr5 RR a0 a1 a2 fr5
      obtain ⟨a0, a1, a2⟩ := KEEP.out _ HLP3.out.fr
      refine hK' _ _ (⟨a0, a1⟩) ?_
      clear hK'
      try simp only [Act.put, List.setIfInBounds_toArray, List.set_cons_zero, List.set_cons_succ]
      repeat (first
        | (refine Lex.skips (by rfl) ?_; (try simp only [Act.put, List.setIfInBounds_toArray, List.set_cons_zero, List.set_cons_succ]))
        | (refine Lex.quiet (v := ?_) (by rfl) (by rfl) ?_ ?_; rotate_left; (focus (intro w' hS'; go_simp; try rfl)); (try simp only [Act.put, List.setIfInBounds_toArray, List.set_cons_zero, List.set_cons_succ])))
      refine Lex.done ?_
      refine Lex.ends ?_
      go_wp2_with fail
      refine (same_words _ _ _ ws ws (owns_reads Z5.out.owns) a2 (by omega)).mono ?_
      rintro e w6 ⟨rfl, q6, hw6⟩
      rw [decide_eq_true rfl]
      have r56 : Fr no w5 w6 := by rw [hw6]; exact (Fr.refl no w5).drewN _
      have HLP4 := Lib.hid (HLP3.out.drew r56 (by simp))
      have Z6 := Lib.hid (ownsZ_fr Z5.out r56 (by simp))
      clear a0 a1 a2 hw6 r56
      go_wp2_with fail
      refine (over_words Z6.out HA.out.lt).mono ?_
      rintro e w7 ⟨rfl, r67⟩
      have HLP5 := Lib.hid (HLP4.out.drew r67 APART.out)
      clear r67
      obtain ⟨a0, a1, a2⟩ := KEEP.out _ HLP5.out.fr
      clear a1 a2
      go_wp2_with fail
      refine (pick_any w7 near 400 hnear (by omega) (by omega)).mono ?_
      rintro e w' ⟨⟨k, hk, rfl⟩, rfl⟩
      go_wp2_with fail
      refine (HLP5.out.alike f a).mono ?_
      rintro e w8 ⟨rfl, s3, hl8⟩
      have HLP6 := Lib.hid hl8
      clear hl8
      go_wp2_with fail
      have C := HLP6.out.alike near (4294967296 + k)
      rw [show ((4294967296 + k : Nat) : Int) = 4294967296 + (k : Int) from by omega] at C
      refine C.mono ?_
      clear C
      rintro e w9 ⟨rfl, s4, hl9⟩
      have HLP7 := Lib.hid hl9
      clear hl9
      go_wp2_with fail
      go_roundw
      case rel => exact ⟨i + 1, P', s4, r2, by go_num, by omega, HLP7.out⟩
      case measure => first | (simp [intOf]; done) | (simp [intOf]; omega)
    · obtain rfl : i = L.length := by omega
      clear hlp
      go_wp2_with fail
      refine (awake_ok _).mono ?_
      rintro e w9 ⟨rfl, r9⟩
      have F9 := Lib.hid ((HLP1.out.fr.trans r9.to).mono (T := no) (fun k hk h2 => by unfold far at hk; omega))
      clear r9
      go_wp2_with fail
      go_ret
      exact ⟨rfl, F9.out⟩

end Go.Proofs.Ytpgmfifieilhkaa

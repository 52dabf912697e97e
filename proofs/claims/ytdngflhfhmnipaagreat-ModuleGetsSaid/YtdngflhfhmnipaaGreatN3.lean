/- twinshaftref08: two, Put. -/
import Derived.Test.YtdngflhfhmnipaaGreatN2
import Derived.Test.YtdngflhfhmnipaaGreatM8
set_option linter.unusedSimpArgs false
set_option linter.unusedVariables false
set_option linter.unusedSectionVars false
set_option linter.unnecessarySimpa false
namespace Go.Proofs.YtdngflhfhmnipaaGreat
open Go.RowKit

attribute [local go_sem] Program.isFuncB Program.isSliceB

variable {w w' w'' w0 : World}

theorem two_ok (w : World) (n : Nat) (hn : n < 65536) :
    Calls Tryz.prog 28 #[.int .i64 n] w fun e w' => ∃ a c, e = .returned (.slice a 2 c) ∧ Reads w' (.slice a 2 c) 1 2 (u8s (le n 2)) ∧ Fr no w w' := by
  have e1 : Int.tmod n 256 = ((n % 256 : Nat) : Int) := by rw [Int.tmod_eq_emod_of_nonneg (by omega)]; omega
  have e2 : Int.tdiv n 256 = ((n / 256 : Nat) : Int) := by rw [Int.tdiv_eq_ediv_of_nonneg (by omega)]; omega
  have h1 : n % 256 < 256 := by omega
  have h2 : n / 256 < 256 := by omega
  have HL : Hid (u8s (le n 2) = [.int .u8 ((n % 256 : Nat) : Int), .int .u8 ((n / 256 : Nat) : Int)]) := Lib.hid (by
    simp [u8s, le]; omega)
  have HM : n % 256 < 256 := by omega
  generalize n % 256 = lo at *
  generalize n / 256 = hi at *
  have w1 : IntKind.i64.wrap (lo : Int) = lo := by rw [IntKind.wrap_i64] <;> omega
  have w2 : IntKind.i64.wrap (hi : Int) = hi := by rw [IntKind.wrap_i64] <;> omega
  have v1 : IntKind.u8.wrap (lo : Int) = lo := by rw [IntKind.wrap_u8] <;> omega
  have v2 : IntKind.u8.wrap (hi : Int) = hi := by rw [IntKind.wrap_u8] <;> omega
  go_enter Tryz.func28, Tryz.ntmps28
  go_wp2_with fail
  go_ret
  refine ⟨_, _, rfl, ?_, (Fr.refl no w).alloc _⟩
  rw [HL.out]
  exact owns_reads (owns_row w [.int .u8 lo, .int .u8 hi] 5 (by simp))

/-- a row that grows, of a call that began at w0 -/
structure Wr (w0 : World) (base : Nat) (w : World) (v : Value) (n : Nat) (bs : List Nat) : Prop where
  own : w.ownsRow base 5 1 v n (u8s bs)
  fr : Fr no w0 w
  lo : w0.heap.size ≤ base
  hi : base ≤ w.heap.size
theorem Wr.go {base n : Nat} {v : Value} {bs : List Nat} (h : Wr w0 base w v n bs) (r : Fr no w w') : Wr w0 base w' v n bs := ⟨owns_fr h.own r (by simp), h.fr.trans r, h.lo, Nat.le_trans h.hi r.size⟩
theorem Wr.grow {base n : Nat} {v : Value} {bs : List Nat} (h : Wr w0 base w v n bs) (hg : w.grownBy w' v.ownBlock) : Fr (fun k => v.ownBlock = some k) w w' := (Fr.refl _ _).grown hg (fun k hk => .inl hk)
theorem Wr.app {base n m : Nat} {v : Value} {ga : Option Addr} {gc : Nat} {bs x : List Nat} (h : Wr w0 base w v n bs) (hg : w.grownBy w' v.ownBlock) (ho : w'.ownsRow base 5 1 (.slice ga (n + m) gc) (n + m) (u8s bs ++ u8s x)) : Wr w0 base w' (.slice ga (n + m) gc) (n + m) (bs ++ x) :=
  ⟨by rw [u8s, List.map_append]; exact ho, h.fr.trans' (h.grow hg) (fun k hk _ => Nat.le_trans h.lo (h.own.lt k hk).1), h.lo, Nat.le_trans h.hi (h.grow hg).size⟩
theorem Wr.keep {base n b : Nat} {v : Value} {bs : List Nat} {cs : Array Value} {t : TypeId} (h : Wr w0 base w v n bs) (hg : w.grownBy w' v.ownBlock) (hB : w.heap[b]? = some (.cells cs t (0, 0))) (hne : 5 ≠ t) : w'.heap[b]? = some (.cells cs t (0, 0)) :=
  (h.grow hg).heap hB (row_block_ne h.own hB hne)
/-- a row that lies off the growing one -/
structure Off (w : World) (v c : Value) (n : Nat) (x : List Nat) : Prop where
  rd : Reads w c 1 n (u8s x)
  old : ∀ k, c.ownBlock = some k → k < w.heap.size
  ne : ∀ k, v.ownBlock = some k → c.ownBlock ≠ some k
theorem Off.go {n : Nat} {v c : Value} {x : List Nat} (h : Off w v c n x) (r : Fr no w w') : Off w' v c n x := ⟨h.rd.fr r (by simp), fun k hk => Nat.lt_of_lt_of_le (h.old k hk) r.size, h.ne⟩
theorem Off.app {base n m : Nat} {v v' c : Value} {bs x : List Nat} (h : Off w v c n x) (k : Wr w0 base w v m bs) (hg : w.grownBy w' v.ownBlock) (hb : ∀ k, v'.ownBlock = some k → v.ownBlock = some k ∨ k = w.heap.size) : Off w' v' c n x :=
  ⟨h.rd.fr (k.grow hg) (fun i hi hv => h.ne i hv hi), fun i hi => Nat.lt_of_lt_of_le (h.old i hi) (k.grow hg).size, fun i hi hc => by
    rcases hb i hi with e | e
    · exact h.ne i e hc
    · have := h.old i hc; omega⟩
theorem owns_off {base n m : Nat} {v c : Value} {bs x : List Nat} (k : Wr w0 base w v m bs) (r : Fr no w w') (ho : w'.ownsRow w.heap.size 5 1 c n (u8s x)) : Off w' v c n x :=
  ⟨owns_reads ho, fun i hi => (ho.lt i hi).2, fun i hi hc => by have := (ho.lt i hc).1; have := (k.own.lt i hi).2; omega⟩
theorem two_u8 (a b : Nat) : ∀ u ∈ [Value.int .u8 a, .int .u8 b], u.oneCell' = true := by
  intro u hu
  simp only [List.mem_cons, List.not_mem_nil, or_false] at hu
  rcases hu with rfl | rfl <;> rfl

set_option maxRecDepth 100000 in
set_option maxHeartbeats 16000000 in
theorem refput_mod (w : World) (m : Mx) (da : Option Addr) (dc : Nat) (fa : Option Addr) (fc : Nat) (hm : ModIn w m da dc fa) (hs : m.Small) :
    Calls Tryz.prog 9 #[.agg #[.slice da m.d.length dc, .slice fa m.f.length fc]] w fun e w' => ∃ v, e = .returned (.tuple #[v, .int .i64 (modCk m)]) ∧ Reads w' v 1 (putM m).length (u8s (putM m)) ∧ Fr no w w' := by
  have hsz := hs
  obtain ⟨ds, fs⟩ := m
  obtain ⟨hs1, hs2, hs3, -⟩ := hs
  dsimp only at hs1 hs2 hs3 ⊢
  have r0 := (Fr.refl no w).alloc (.cells #[.slice da ds.length dc, .slice fa fs.length fc] 25)
  have R0 := Lib.hid r0
  have HI := Lib.hid (modObj w (.slice da ds.length dc) (.slice fa fs.length fc))
  have HM := Lib.hid (hm.fr r0)
  have HM0 := Lib.hid hm
  have HCK := Lib.hid (refcheck_mod _ ⟨ds, fs⟩ da dc fa fc (hm.fr r0) hsz)
  have HS3 := Lib.hid hs3
  have HZ := Lib.hid (fun h => modCk_zero (m := ⟨ds, fs⟩) h)
  have HPM : Hid (putM ⟨ds, fs⟩ = if modCk ⟨ds, fs⟩ = 0 then modB ⟨ds, fs⟩ else []) := Lib.hid rfl
  generalize modCk ⟨ds, fs⟩ = ck at *
  generalize putM ⟨ds, fs⟩ = pm at *
  dsimp only at HCK
  clear r0 hm hs3 hsz
  go_enter Tryz.func9, Tryz.ntmps9
  obtain ⟨c0, c1⟩ := cells2 HI.out
  go_wp2_with fail
  refine HCK.out.mono ?_
  rintro e w1 ⟨rfl, r1⟩
  have R1 := Lib.hid (R0.out.trans r1)
  have HI1 := Lib.hid (r1.heap HI.out (by simp))
  clear r1 c0 c1 HCK HI HM R0
  by_cases hck : ck = 0
  case neg =>
    have e1 : (ck != 0) = true := by simpa using hck
    have HP : Hid (pm = []) := Lib.hid (by rw [HPM.out, if_neg hck])
    clear hck
    go_wp2_with fail
    go_ret2
    exact ⟨_, rfl, by rw [HP.out]; exact .inl ⟨rfl, rfl, rfl⟩, R1.out⟩
  subst hck
  obtain ⟨z1, z2, z3, z4⟩ := HZ.out rfl
  try dsimp only at z1 z2 z3 z4
  have HP : Hid (pm = headB ⟨ds, fs⟩ ++ fnsB fs) := Lib.hid (by rw [HPM.out, if_pos rfl]; rfl)
  have Z4 := Lib.hid z4
  clear z4 HPM HZ
  -- the mark
  have r2 := (Fr.refl no w1).alloc (.cells #[.int .u8 84, .int .u8 87, .int .u8 1] 5)
  obtain ⟨base, hbase⟩ : ∃ b, b = w1.heap.size := ⟨_, rfl⟩
  have W2 : Hid (Wr w base (w1.alloc (.cells #[.int .u8 84, .int .u8 87, .int .u8 1] 5)) (.slice (some ⟨w1.heap.size, 0, none⟩) 3 3) 3 [84, 87, 1]) := Lib.hid (by
    subst hbase
    exact ⟨owns_row w1 [.int .u8 84, .int .u8 87, .int .u8 1] 5 (by simp), R1.out.trans r2, R1.out.size, r2.size⟩)
  have HI2 := Lib.hid (r2.heap HI1.out (by simp))
  clear r2 hbase HI1 R1
  obtain ⟨c0, c1⟩ := cells2 HI2.out
  go_wp2_with fail
  refine (two_ok _ ds.length (by omega)).mono ?_
  rintro e w3 ⟨ta, tc, rfl, ht, r3⟩
  have W3 := Lib.hid (W2.out.go r3)
  have HT := Lib.hid ht
  have HI3 := Lib.hid (r3.heap HI2.out (by simp))
  clear ht r3 W2 HI2 c0 c1
  obtain ⟨c0, c1⟩ := cells2 HI3.out
  go_upto_region 5 with (at_builtin; (refine wpList_append_at rfl (.tmp 15) _ 22 rfl base 5 (.int .u8 0) 1 1 Tryz.underlying22 Tryz.infoU8 rfl (by decide) _ 3 _ rfl W3.out.own 2 _ HT.out (u8s_one _) (by unfold maxLen; omega) (by omega) W3.out.hi ?_); intro gaa gca wa ho hg hb)
  have W4 := Lib.hid (W3.out.app hg ho)
  have HI4 := Lib.hid (W3.out.keep hg HI3.out (by decide))
  clear ho hg hb W3 HI3 HT c0 c1
  obtain ⟨c0, c1⟩ := cells2 HI4.out
  have HD := Lib.hid (HM0.out.data.fr W4.out.fr (by simp))
  go_upto_region 6 with (at_builtin; (refine wpList_append_at rfl (.tmp 21) _ 22 rfl base 5 (.int .u8 0) 1 1 Tryz.underlying22 Tryz.infoU8 rfl (by decide) _ (3 + 2) _ rfl W4.out.own ds.length _ HD.out (u8s_one _) (by unfold maxLen; omega) (by omega) W4.out.hi ?_); intro gab gcb wb ho hg hb)
  have W5 := Lib.hid (W4.out.app hg ho)
  have HI5 := Lib.hid (W4.out.keep hg HI4.out (by decide))
  clear ho hg hb W4 HI4 HD c0 c1
  have v1 : IntKind.u8.wrap (fs.length : Int) = fs.length := by rw [IntKind.wrap_u8] <;> omega
  have r6 := (Fr.refl no wb).alloc (.cells #[.int .u8 fs.length] 5)
  have W6 := Lib.hid (W5.out.go r6)
  have HI6 := Lib.hid (r6.heap HI5.out (by simp))
  have HN : Hid (Reads (wb.alloc (.cells #[.int .u8 fs.length] 5)) (.slice (some ⟨wb.heap.size, 0, none⟩) 1 1) 1 1 (u8s [fs.length])) := Lib.hid (owns_reads (owns_row wb [.int .u8 fs.length] 5 (by simp)))
  obtain ⟨c0, c1⟩ := cells2 HI5.out
  clear r6 W5
  go_upto_region 7 with (at_builtin; (refine wpList_append_at rfl (.tmp 25) _ 22 rfl base 5 (.int .u8 0) 1 1 Tryz.underlying22 Tryz.infoU8 rfl (by decide) _ (3 + 2 + ds.length) _ rfl W6.out.own 1 _ HN.out (u8s_one _) (by unfold maxLen; omega) (by omega) W6.out.hi ?_); intro gac gcc wc ho hg hb)
  have HEAD : headB ⟨ds, fs⟩ = [84, 87, 1] ++ le ds.length 2 ++ ds ++ [fs.length] := by
    unfold headB
    have : le fs.length 1 = [fs.length] := by simp [le]; omega
    rw [this]
    simp
  have W7 : Hid (Wr w base wc (.slice gac (3 + 2 + ds.length + 1) gcc) (3 + 2 + ds.length + 1) (headB ⟨ds, fs⟩ ++ fnsB (fs.take 0))) := Lib.hid (by
    have := W6.out.app (x := [fs.length]) hg ho
    rw [HEAD]
    simpa [fnsB] using this)
  have HI7 := Lib.hid (W6.out.keep hg HI6.out (by decide))
  clear ho hg hb W6 HI5 HI6 HN c0 c1 HEAD v1
  go_wp2_with fail
  go_loopw [5, 6] (fun x y wr => ∃ (k n : Nat) (a : Option Addr) (c : Nat), k ≤ fs.length ∧ y = .int .i64 k ∧ x = .slice a n c ∧ n ≤ 1006 + 4102 * k ∧ Hid (Wr w base wr (.slice a n c) n (headB ⟨ds, fs⟩ ++ fnsB (fs.take k))) ∧ Hid (wr.heap[w.heap.size]? = some (.cells #[.slice da ds.length dc, .slice fa fs.length fc] 25 (0, 0)))) (fun _ y _ => (fs.length - intOf y).toNat)
  case atStart => exact ⟨0, _, _, _, by omega, rfl, rfl, by omega, W7, HI7⟩
  case round =>
    obtain ⟨k, n, oa, oc, hk, rfl, rfl, hn, W0, M0⟩ := hrel
    obtain ⟨c0, c1⟩ := cells2 M0.out
    by_cases hks : k < fs.length
    · have hks' : (k : Int) < fs.length := by omega
      have FI := HM0.out.fns.fr W0.out.fr
      obtain ⟨b, of, ca, cc, rfl, hi⟩ := FI k hks
      obtain ⟨d0, d1, d2, d3⟩ := hi.four
      have hck := Z4.out _ (List.getElem_mem hks)
      have hsm := HS3.out _ (List.getElem_mem hks)
      have hnx : Hid (fnsB (fs.take (k + 1)) = fnsB (fs.take k) ++ fnB fs[k]) := Lib.hid (fnsB_take fs k hks)
      have CODE := Lib.hid hi.code
      clear hi FI
      generalize fs[k] = fx at *
      obtain ⟨fp, fr, far, fcode⟩ := fx
      obtain ⟨y1, -, -⟩ := fnCk_zero hck
      obtain ⟨n1, n2, n3, n4, n5, n6⟩ := numBad_false y1
      obtain ⟨hsm1, hsm2⟩ := hsm
      dsimp only at n1 n2 n3 n4 n5 n6 hsm1 hsm2 d0 d1 d2 d3 CODE
      obtain ⟨p, rfl⟩ : ∃ p : Nat, fp = p := ⟨fp.toNat, by omega⟩
      obtain ⟨r, rfl⟩ : ∃ p : Nat, fr = p := ⟨fr.toNat, by omega⟩
      obtain ⟨ar, rfl⟩ : ∃ p : Nat, far = p := ⟨far.toNat, by omega⟩
      have hjl := joinB_len fcode
      have HEQ : Hid (fnsB (fs.take (k + 1)) = fnsB (fs.take k) ++ ([p, r] ++ le ar 2 ++ le (joinB fcode).length 2 ++ joinB fcode)) := Lib.hid (by
        rw [hnx.out]
        have e1 : le p 1 = [p] := by simp [le]; omega
        have e2 : le r 1 = [r] := by simp [le]; omega
        unfold fnB
        simp [e1, e2])
      have v1 : IntKind.u8.wrap (p : Int) = p := by rw [IntKind.wrap_u8] <;> omega
      have v2 : IntKind.u8.wrap (r : Int) = r := by rw [IntKind.wrap_u8] <;> omega
      have har : ar < 65536 := by omega
      have r1 := (Fr.refl no wr).alloc (.cells #[.int .i64 p, .int .i64 r, .int .i64 ar, .slice ca fcode.length cc] 44)
      have W1 := Lib.hid (W0.out.go r1)
      have M1 := Lib.hid (r1.heap M0.out (by simp))
      have F1 := Lib.hid (fnObj wr p r ar (.slice ca fcode.length cc))
      have J1 := Lib.hid (refjoin_ok _ ca cc fcode (CODE.out.fr r1) hsm1 hsm2)
      obtain ⟨f0, f1, f2, f3⟩ := cells4 F1.out
      clear r1 hnx hck y1 n1 n2 n3 n4 n5 n6 W0 CODE hsm1 hsm2
      go_wp2_with fail
      refine J1.out.mono ?_
      rintro e w2 ⟨v, rfl, hv, r2⟩
      obtain ⟨va, vc, rfl⟩ := owns_shape hv
      have O2 := Lib.hid (owns_off W1.out r2 hv)
      have W2 := Lib.hid (W1.out.go r2)
      have M2 := Lib.hid (r2.heap M1.out (by simp))
      have F2 := Lib.hid (r2.heap F1.out (by simp))
      clear r2 hv J1 W1 M0 M1 F1 c0 c1 d0 d1 d2 d3 f0 f1 f2 f3
      generalize hjn : (joinB fcode).length = jn at *
      obtain ⟨f0, f1, f2, f3⟩ := cells4 F2.out
      have r3 := (Fr.refl no w2).alloc (.cells #[.int .u8 p, .int .u8 r] 5)
      have O3 := Lib.hid (O2.out.go r3)
      have W3 := Lib.hid (W2.out.go r3)
      have M3 := Lib.hid (r3.heap M2.out (by simp))
      have F3 := Lib.hid (r3.heap F2.out (by simp))
      have HN : Hid (Reads (w2.alloc (.cells #[.int .u8 p, .int .u8 r] 5)) (.slice (some ⟨w2.heap.size, 0, none⟩) 2 2) 1 2 (u8s [p, r])) := Lib.hid (owns_reads (owns_row w2 [.int .u8 p, .int .u8 r] 5 (by simp)))
      clear r3 O2 W2 M2
      go_upto_region 13 with (at_builtin; (refine wpList_append_at rfl (.tmp 50) _ 22 rfl base 5 (.int .u8 0) 1 1 Tryz.underlying22 Tryz.infoU8 rfl (by decide) _ n _ rfl W3.out.own 2 _ HN.out (u8s_one _) (by unfold maxLen; omega) (by omega) W3.out.hi ?_); intro ga4 gc4 w4 ho hg hb)
      have W4 := Lib.hid (W3.out.app (x := [p, r]) hg ho)
      have M4 := Lib.hid (W3.out.keep hg M3.out (by decide))
      have F4 := Lib.hid (W3.out.keep hg F3.out (by decide))
      have O4 := Lib.hid (O3.out.app W3.out hg hb)
      clear ho hg hb W3 M3 F2 F3 O3 HN f0 f1 f2 f3
      obtain ⟨f0, f1, f2, f3⟩ := cells4 F4.out
      go_wp2_with fail
      refine (two_ok _ ar har).mono ?_
      rintro e w5 ⟨ta, tc, rfl, ht, r5⟩
      have W5 := Lib.hid (W4.out.go r5)
      have M5 := Lib.hid (r5.heap M4.out (by simp))
      have O5 := Lib.hid (O4.out.go r5)
      have HT := Lib.hid ht
      clear ht r5 W4 M4 F4 O4 f0 f1 f2 f3
      go_upto_region 14 with (at_builtin; (refine wpList_append_at rfl (.tmp 59) _ 22 rfl base 5 (.int .u8 0) 1 1 Tryz.underlying22 Tryz.infoU8 rfl (by decide) _ (n + 2) _ rfl W5.out.own 2 _ HT.out (u8s_one _) (by unfold maxLen; omega) (by omega) W5.out.hi ?_); intro ga6 gc6 w6 ho hg hb)
      have W6 := Lib.hid (W5.out.app hg ho)
      have M6 := Lib.hid (W5.out.keep hg M5.out (by decide))
      have O6 := Lib.hid (O5.out.app W5.out hg hb)
      clear ho hg hb W5 M5 O5 HT
      go_wp2_with fail
      refine (two_ok _ jn (by omega)).mono ?_
      rintro e w7 ⟨ta, tc, rfl, ht, r7⟩
      have W7 := Lib.hid (W6.out.go r7)
      have M7 := Lib.hid (r7.heap M6.out (by simp))
      have O7 := Lib.hid (O6.out.go r7)
      have HT := Lib.hid ht
      clear ht r7 W6 M6 O6
      go_upto_region 15 with (at_builtin; (refine wpList_append_at rfl (.tmp 64) _ 22 rfl base 5 (.int .u8 0) 1 1 Tryz.underlying22 Tryz.infoU8 rfl (by decide) _ (n + 2 + 2) _ rfl W7.out.own 2 _ HT.out (u8s_one _) (by unfold maxLen; omega) (by omega) W7.out.hi ?_); intro ga8 gc8 w8 ho hg hb)
      have W8 := Lib.hid (W7.out.app hg ho)
      have M8 := Lib.hid (W7.out.keep hg M7.out (by decide))
      have O8 := Lib.hid (O7.out.app W7.out hg hb)
      have R8 := Lib.hid O8.out.rd
      clear ho hg hb W7 M7 O7 HT
      go_wp2_with (at_builtin; (refine wpList_append_at rfl (.tmp 69) _ 22 rfl base 5 (.int .u8 0) 1 1 Tryz.underlying22 Tryz.infoU8 rfl (by decide) _ (n + 2 + 2 + 2) _ rfl W8.out.own jn _ R8.out (u8s_one _) (by unfold maxLen; omega) (by omega) W8.out.hi ?_); intro ga9 gc9 w9 ho hg hb)
      have W9 := Lib.hid (W8.out.app hg ho)
      have M9 := Lib.hid (W8.out.keep hg M8.out (by decide))
      clear ho hg hb W8 M8 O8 R8
      go_roundw
      case rel => exact ⟨k + 1, _, _, _, by omega, by go_num, rfl, by omega, Lib.hid (by have := W9.out; rw [HEQ.out]; simpa [List.append_assoc, hjn] using this), M9⟩
      case measure => first | (simp [intOf]; done) | (simp [intOf]; omega)
    · obtain rfl : k = fs.length := by omega
      have HR : Hid (Reads wr (.slice oa n oc) 1 pm.length (u8s pm)) := Lib.hid (by
        have h := owns_reads W0.out.own
        rw [List.take_length, ← HP.out] at h
        have hl := W0.out.own.1
        rw [List.take_length, ← HP.out, u8s_len] at hl
        rw [show pm.length = n from by omega]
        exact h)
      have RF := Lib.hid W0.out.fr
      clear W0
      go_wp2_with fail
      go_ret2
      exact ⟨_, rfl, HR.out, RF.out⟩

end Go.Proofs.YtdngflhfhmnipaaGreat

import Derived.Test.YtajfhgphbcmmhaaG34
import Derived.Test.YtajfhgphbcmmhaaG33
set_option linter.unusedSimpArgs false
set_option linter.unusedVariables false
set_option linter.unusedSectionVars false
set_option linter.unnecessarySimpa false
namespace Go.Proofs.Ytajfhgphbcmmhaa
open Go.RowKit

attribute [local go_sem] Program.isFuncB Program.isSliceB

variable {w w' w'' w0 : World}

/-! ### what is joined is split as it was -/
theorem joinCk_zero (is : List Ix) (h : joinCk is = 0) : (∀ i ∈ is, ckOf i = 0) ∧ (bytesOf is).length ≤ 4096 ∧ joinB is = bytesOf is := by
  have hb : joinB is = bytesOf is := by unfold joinB; rw [if_pos h]
  unfold joinCk at h
  split at h
  · rename_i i hf
    have := List.find?_some hf
    simp at this
    exact absurd h this
  · rename_i hf
    rw [List.find?_eq_none] at hf
    refine ⟨fun i hi => by simpa using hf i hi, ?_, hb⟩
    split at h
    · exact absurd h (by decide)
    · omega
theorem joinB_bad (is : List Ix) (h : joinCk is ≠ 0) : joinB is = [] := by unfold joinB; rw [if_neg h]
theorem bytesOf_lt (is : List Ix) : ∀ b ∈ bytesOf is, b < 256 := by
  intro b hb
  unfold bytesOf at hb
  rw [List.mem_flatMap] at hb
  obtain ⟨i, -, hi⟩ := hb
  exact encE_lt i b hi
theorem encE_pos (i : Ix) (h : ckOf i = 0) : 0 < (encE i).length := by
  unfold encE
  rw [if_pos h, enc_eq]
  simp
def placesOf (is : List Ix) : List Int := (List.range is.length).map fun k => ((bytesOf (is.take k)).length : Int)
theorem bytesOf_app (a b : List Ix) : bytesOf (a ++ b) = bytesOf a ++ bytesOf b := by simp [bytesOf]
theorem getR_at (is : List Ix) (hck : ∀ i ∈ is, ckOf i = 0) (hN : ∀ i ∈ is, rng i.N) (k : Nat) (hk : k < is.length) :
    getR (bytesOf is) ((bytesOf (is.take k)).length : Nat) = ⟨is[k], ((bytesOf (is.take (k + 1))).length : Nat), 0, 0⟩ := by
  have h0 : bytesOf is = bytesOf (is.take k) ++ (encE is[k] ++ bytesOf (is.drop (k + 1))) := by
    conv => lhs; rw [← List.take_append_drop k is, List.drop_eq_getElem_cons hk, bytesOf_app]
    rfl
  have := getR_enc is[k] (hck _ (List.getElem_mem _)) (hN _ (List.getElem_mem _)) (bytesOf is) (bytesOf (is.take k)).length (bytesOf (is.drop (k + 1))) (by rw [h0, List.drop_left' rfl])
  rw [this, List.take_succ_eq_append_getElem hk, bytesOf_snoc, List.length_append]
theorem splitR_join (is : List Ix) (hck : ∀ i ∈ is, ckOf i = 0) (hN : ∀ i ∈ is, rng i.N) : ∀ (n f k : Nat), k + n = is.length → n < f →
    splitR (bytesOf is) f (is.take k) ((List.range k).map fun j => ((bytesOf (is.take j)).length : Int)) (bytesOf (is.take k)).length = ⟨is, placesOf is, 0, 0⟩
  | 0, f, k, hk, hf => by
    obtain ⟨f, rfl⟩ : ∃ g, f = g + 1 := ⟨f - 1, by omega⟩
    obtain rfl : k = is.length := by omega
    unfold splitR
    rw [List.take_length, if_pos (Nat.le_refl _)]
    rfl
  | n + 1, f, k, hk, hf => by
    obtain ⟨f, rfl⟩ : ∃ g, f = g + 1 := ⟨f - 1, by omega⟩
    have hks : k < is.length := by omega
    have hlen : (bytesOf (is.take k)).length < (bytesOf is).length := by
      have h1 := encE_pos is[k] (hck _ (List.getElem_mem _))
      have h2 : bytesOf is = bytesOf (is.take k) ++ (encE is[k] ++ bytesOf (is.drop (k + 1))) := by
        conv => lhs; rw [← List.take_append_drop k is, List.drop_eq_getElem_cons hks, bytesOf_app]
        rfl
      have := congrArg List.length h2
      simp only [List.length_append] at this
      omega
    unfold splitR
    rw [if_neg (by omega), getR_at is hck hN k hks]
    dsimp only
    rw [if_neg (show ¬ ((0 : Int) ≠ 0) from by simp), Int.toNat_natCast]
    have := splitR_join is hck hN n f (k + 1) (by omega) (by omega)
    rw [List.take_succ_eq_append_getElem hks, List.range_succ, List.map_append] at this
    rw [List.take_succ_eq_append_getElem hks]
    exact this
theorem splitR_joined (is : List Ix) (hck : ∀ i ∈ is, ckOf i = 0) (hN : ∀ i ∈ is, rng i.N) : splitR (bytesOf is) ((bytesOf is).length + 1) [] [] 0 = ⟨is, placesOf is, 0, 0⟩ := by
  have hl : is.length ≤ (bytesOf is).length := by
    have : ∀ l : List Ix, (∀ i ∈ l, ckOf i = 0) → l.length ≤ (bytesOf l).length := by
      intro l
      induction l with
      | nil => intro _; exact Nat.zero_le _
      | cons i l ih =>
        intro h
        have h1 := encE_pos i (h i (by simp))
        have h2 := ih (fun j hj => h j (by simp [hj]))
        simp only [bytesOf, List.flatMap_cons, List.length_append, List.length_cons] at *
        omega
    exact this is hck
  have := splitR_join is hck hN is.length ((bytesOf is).length + 1) 0 (by omega) (by omega)
  exact this
theorem placesOf_len (is : List Ix) : (placesOf is).length = is.length := by simp [placesOf]
theorem placesOf_at (is : List Ix) (k : Nat) (hk : k < is.length) : (ints (placesOf is))[k]? = some (.int .i64 ((bytesOf (is.take k)).length : Nat)) := by
  simp [ints, placesOf, hk]

set_option maxRecDepth 100000 in
set_option maxHeartbeats 16000000 in
theorem back_ok (w : World) (sa : Option Addr) (c : Nat) (is : List Ix) (hin : CodeIn w sa is) (hlen : is.length ≤ maxLen) (hargs : ∀ i ∈ is, i.l.length ≤ maxLen) (hN : ∀ i ∈ is, rng i.N) :
    Calls Try.prog 7 #[.slice sa is.length c] w fun e w' => e = .returned (.bool true) ∧ Fr no w w' := by
  have KN := Lib.hid (known_ok w)
  have HIN := Lib.hid hin
  have hlo : ∀ w2, CodeIn w2 sa is → Calls Try.prog 9 #[.slice sa is.length c, .int .i64 60] w2 (LongR w2 60 is) := fun w2 h => long_ok w2 sa c 60 is h hlen (by omega) hargs
  have HLO := Lib.hid hlo
  clear hlo
  have HNN := Lib.hid hN
  unfold maxLen at hlen
  clear hin hargs hN
  go_enter Try.func7, Try.ntmps7
  go_wp2_with fail
  refine KN.out.mono ?_
  rintro e w2 ⟨rfl, r2⟩
  have R2 := Lib.hid r2
  have HL2 := Lib.hid (HLO.out w2 (HIN.out.fr r2))
  clear r2 KN HLO
  go_wp2_with fail
  refine HL2.out.mono ?_
  rintro e w4 ⟨q, rfl, hq, r4⟩
  have R4 := Lib.hid (R2.out.trans r4)
  have HQ := Lib.hid hq
  clear hq r4 HL2 R2
  cases q
  case true =>
    go_wp2_with fail
    go_ret
    exact ⟨rfl, R4.out⟩
  have hl60 := (HQ.out rfl).1
  have HA20 := Lib.hid (HQ.out rfl).2
  have HJ := Lib.hid (join_ok w4 sa c is (HIN.out.fr R4.out) (by omega) (fun i hi => by have := HA20.out i hi; omega))
  clear HQ
  go_wp2_with fail
  refine HJ.out.mono ?_
  rintro e w5 ⟨bv, rfl, hbv, r5⟩
  obtain ⟨ba, bc, rfl⟩ := owns_shape hbv
  have R5 := Lib.hid (R4.out.trans r5)
  have HBV := Lib.hid hbv
  clear r5 hbv HJ R4
  by_cases hj : joinCk is = 0
  case neg =>
    have e1 : (joinCk is != 0) = true := by simpa using hj
    have HJ0 := Lib.hid (joinB_bad is hj)
    have e2 : (joinB is).length = 0 := by rw [HJ0.out]; rfl
    generalize (joinB is).length = jl at *
    subst e2
    clear hj
    go_wp2_with fail
    go_ret
    exact ⟨rfl, R5.out⟩
  obtain ⟨j1, j2, j3⟩ := joinCk_zero is hj
  have e1 : (joinCk is != 0) = false := by simpa using hj
  have HCK := Lib.hid j1
  rw [j3] at HBV
  have HJB := Lib.hid j3
  have HB := Lib.hid (Bytes.mk (owns_reads HBV.out) (bytesOf_lt is) (by omega) (fun k hk => (HBV.out.lt k hk).2))
  have HS := Lib.hid (split_v w5 _ (bytesOf is) HB.out j2)
  rw [splitR_joined is j1 HNN.out] at HS
  have HGA := Lib.hid (fun k hk => getR_at is j1 HNN.out k hk)
  have HJL : (joinB is).length = (bytesOf is).length := by rw [j3]
  generalize hjl : (joinB is).length = jl at *
  subst HJL
  clear hjl hj j1 j3
  go_wp2_with fail
  refine HS.out.mono ?_
  rintro e w6 ⟨ma, mc, pv, rfl, hs⟩
  have HC6 := Lib.hid hs.code
  have HP6 := Lib.hid hs.places
  have Q6 := Lib.hid hs.fr
  clear hs HS
  dsimp only at HC6 HP6
  obtain ⟨pa, pc, rfl⟩ := owns_shape HP6.out
  have HX0 := Lib.hid (heap_new w6 (.cells #[.int .i64 0, .int .i64 0] 42))
  go_upto_region 8 with (refine wpList_store_row rfl 42 (.tmp 8) (.tmp 36) rfl w6.heap.size #[.int .i64 0, .int .i64 0] rfl rfl _ _ HX0.out (by rw [Try.infoFault]; rfl) rfl (by simp [Value.oneCell']) ?_; rw [act_put_none])
  have HF7 := Lib.hid (setRow_heap _ w6.heap.size _ #[.int .i64 0, .int .i64 0] _ _ HX0.out)
  have ra := (Fr.refl no w6).alloc (.cells #[.int .i64 0, .int .i64 0] 42)
  have rb := ra.trans' (fr_setRow (g := w6.heap.size) (cs := #[.int .i64 0, .int .i64 0]) (Fr.refl (only [w6.heap.size]) _) (.inl (by simp))) (fun k hk _ => by simp at hk; omega)
  have HC7 := Lib.hid (HC6.out.fr rb)
  have HP7 := Lib.hid ((owns_reads HP6.out).fr rb (by simp))
  have Q7 := Lib.hid (Q6.out.trans rb)
  clear ra rb HX0 HC6 HP6 Q6
  generalize World.setRow _ w6.heap.size #[.int .i64 0, .int .i64 0] = w7 at *
  have R7 := Lib.hid (R5.out.trans Q7.out)
  have HB7 := Lib.hid (HB.out.fr Q7.out)
  have s0 := samecode_ok w7 ma sa mc c is is HC7.out (HIN.out.fr R7.out) (by omega) (fun i hi => by have := HA20.out i hi; omega) (by omega)
  rw [show decide (is = is) = true from decide_eq_true rfl] at s0
  have SC := Lib.hid s0
  have HPL := Lib.hid (placesOf_len is)
  clear s0 HB HBV R5 Q7
  rw [HPL.out] at HP7
  have f0 := cell_of_heap (o := 0) HF7.out rfl
  have f1 := cell_of_heap (o := 1) HF7.out rfl
  generalize hpl : (placesOf is).length = pl at *
  obtain rfl : pl = is.length := HPL.out
  clear hpl HPL
  go_wp2_with fail
  refine SC.out.mono ?_
  rintro e w8 ⟨rfl, r8⟩
  have R8 := Lib.hid (R7.out.trans r8)
  have HB8 := Lib.hid (HB7.out.fr r8)
  have HP8 := Lib.hid (HP7.out.fr r8 (by simp))
  clear r8 SC f0 f1 R7 HB7 HP7 HF7 HC7
  go_wp2_with fail
  go_loopw [9, 10] (fun x y wr => ∃ k : Nat, k ≤ is.length ∧ y = .int .i64 k ∧ x = .int .i64 ((bytesOf (is.take k)).length : Nat) ∧ Hid (Fr no w8 wr)) (fun _ y _ => (is.length - intOf y).toNat)
  case atStart => exact ⟨0, by omega, rfl, rfl, Lib.hid (Fr.refl _ _)⟩
  case round =>
    obtain ⟨k, hk, rfl, rfl, hfr⟩ := hrel
    by_cases hks : k < is.length
    · have hks' : (k : Int) < is.length := by omega
      have HG := get_any wr _ (bytesOf is) ((bytesOf (is.take k)).length : Nat) (HB8.out.fr hfr.out)
      rw [HGA.out k hks] at HG
      have HG0 := Lib.hid HG
      have HPC := Lib.hid (placesOf_at is k hks)
      obtain ⟨pb, po, rfl, hpc⟩ := (HP8.out.fr hfr.out (by simp)).at1 HPC.out
      obtain ⟨b1, o1, u1, rfl, h1⟩ := (HIN.out.fr (R8.out.trans hfr.out)) k hks
      have HCKK := Lib.hid (HCK.out _ (List.getElem_mem hks))
      have hal := HA20.out is[k] (List.getElem_mem hks)
      have HLE : Hid (((bytesOf (is.take (k + 1))).length : Nat) = (bytesOf (is.take k)).length + (encE is[k]).length) := Lib.hid (by rw [List.take_succ_eq_append_getElem hks, bytesOf_snoc, List.length_append])
      obtain ⟨ix, hix⟩ : ∃ i, i = is[k] := ⟨_, rfl⟩
      rw [← hix] at HG0 HCKK hal HLE h1
      have H1 := Lib.hid h1
      have HPB := Lib.hid hpc
      clear hix HG hpc h1
      have hnx := HLE.out
      have hbk : (bytesOf (is.take k)).length ≤ 28 * 60 := by
        have h1 := bytesOf_len (is.take k)
        rw [List.length_take] at h1
        omega
      have hel := encE_len ix
      generalize hnq : (bytesOf (is.take (k + 1))).length = nx at *
      have HNQ := Lib.hid hnq
      clear hnq
      generalize hak : (bytesOf (is.take k)).length = ak at *
      have HAK := Lib.hid hak
      clear hak
      subst hnx
      obtain ⟨io, iA, iB, iC, iN, il⟩ := ix
      go_wp2_with fail
      refine HG0.out.mono ?_
      rintro e w10 ⟨u, rfl, hu, r10⟩
      obtain ⟨ua, uc, rfl⟩ := owns_shape hu
      unfold resV
      dsimp only at hu ⊢
      have HU := Lib.hid (owns_reads hu)
      have Q10 := Lib.hid r10
      clear hu r10 HG0
      have HW0 := Lib.hid (RW.start w10 zeroIns 0 0)
      unfold zeroIns at HW0
      have HW1 := Lib.hid (HW0.out.set1 #[.int .i64 io, .int .i64 iA, .int .i64 iB, .int .i64 iC, .int .i64 iN, .slice ua il.length uc])
      have HW2 := Lib.hid (HW1.out.set2 0 0)
      go_upto_region 15 with (first
        | (refine wpList_store_row rfl 35 (.tmp 11) (.tmp 63) rfl w10.heap.size #[.int .i64 io, .int .i64 iA, .int .i64 iB, .int .i64 iC, .int .i64 iN, .slice ua il.length uc] rfl rfl _ _ HW0.out.ins (by rw [Try.infoIns]; rfl) rfl (by simp [Value.oneCell']) ?_; rw [act_put_none])
        | (refine wpList_store_row rfl 42 (.tmp 13) (.tmp 65) rfl (w10.heap.size + 1) #[.int .i64 0, .int .i64 0] rfl rfl _ _ HW1.out.fault (by rw [Try.infoFault]; rfl) rfl (by simp [Value.oneCell']) ?_; rw [act_put_none]))
      clear HW0 HW1
      generalize World.setRow _ (w10.heap.size + 1) #[.int .i64 0, .int .i64 0] = w11 at *
      have rd := (Fr.refl no w11).drew
      have Q11 := Lib.hid ((Q10.out.trans HW2.out.fr).trans rd)
      have HU11 := Lib.hid ((HU.out.fr HW2.out.fr (by simp)).fr rd (by simp))
      have HI11 := Lib.hid (At.of_heap (rd.heap HW2.out.ins (by simp)))
      have HF11 := Lib.hid (At.of_heap (rd.heap HW2.out.fault (by simp)))
      have HA11 := Lib.hid (H1.out.at_.fr Q11.out)
      have HR11 := Lib.hid (H1.out.args.fr Q11.out (by simp))
      have HP11 := Lib.hid (Q11.out.cell HPB.out (by simp))
      have F11 := Lib.hid (hfr.out.trans Q11.out)
      clear rd HW2 HU Q10 Q11 H1 HPB hfr
      unfold Ix.cells at HA11
      dsimp only at HA11 HR11 HI11 HF11 hal
      go_wp2_with fail
      have s1 := sameins_ok w11.drew io iA iB iC iN io iA iB iC iN _ _ il il HU11.out HR11.out (by omega)
      rw [show decide (io = io ∧ iA = iA ∧ iB = iB ∧ iC = iC ∧ iN = iN ∧ il = il) = true from by simp] at s1
      unfold insV at s1
      have S1 := Lib.hid s1
      have S2 := Lib.hid (fun w12 (r : Fr no w11.drew w12) => length_ok w12 ⟨io, iA, iB, iC, iN, il⟩ _ (HR11.out.fr r (by simp)) (by dsimp only; omega))
      have S3 := Lib.hid (fun w12 (r : Fr no w11.drew w12) => check_ok w12 io iA iB iC iN 64 4096 _ il (HU11.out.fr r (by simp)) (by omega))
      unfold insV at S2 S3
      have hck0 : checkOf io iA iB iC iN il 64 4096 = 0 := HCKK.out
      rw [hck0] at S3
      generalize encE ⟨io, iA, iB, iC, iN, il⟩ = en at *
      have hwr : IntKind.i64.wrap ((ak : Int) + (en.length : Int)) = (ak : Int) + (en.length : Int) := by rw [IntKind.wrap_i64]; omega
      have hcs : ((ak + en.length : Nat) : Int) = (ak : Int) + (en.length : Int) := by omega
      clear s1 hck0
      refine Lex.region [17, 27, 33] [36] (by kernel_rfl) (by kernel_rfl) ?_
      refine Lex.opens (fun w' => w'.cell? ⟨pb, po + k, none⟩ = some (.int .i64 ak) ∧ At w' w10.heap.size 0 [.int .i64 io, .int .i64 iA, .int .i64 iB, .int .i64 iC, .int .i64 iN, .slice ua il.length uc] ∧ At w' (w10.heap.size + 1) 0 [.int .i64 0, .int .i64 0] ∧ At w' b1 (o1 + k * 6) [.int .i64 io, .int .i64 iA, .int .i64 iB, .int .i64 iC, .int .i64 iN, u1]) (⟨HP11.out, HI11.out, HF11.out, HA11.out⟩) ?_
      repeat (first
        | (refine Lex.skips (by rfl) ?_; (try simp only [Act.put, List.setIfInBounds_toArray, List.set_cons_zero, List.set_cons_succ]))
        | (refine Lex.into (by rfl) (by rfl) _ _ rfl _ _ rfl _ _ (fun w' h => h.2.1) Try.underlying35 rfl (by rw [Try.infoIns]; rfl) ?_; (try simp only [Act.put, List.setIfInBounds_toArray, List.set_cons_zero, List.set_cons_succ]))
        | (refine Lex.into (by rfl) (by rfl) _ _ rfl _ _ rfl _ _ (fun w' h => h.2.2.1) Try.underlying42 rfl (by rw [Try.infoFault]; rfl) ?_; (try simp only [Act.put, List.setIfInBounds_toArray, List.set_cons_zero, List.set_cons_succ]))
        | (refine Lex.into (by rfl) (by rfl) _ _ rfl _ _ rfl _ _ (fun w' h => h.2.2.2) Try.underlying35 rfl (by rw [Try.infoIns]; rfl) ?_; (try simp only [Act.put, List.setIfInBounds_toArray, List.set_cons_zero, List.set_cons_succ]))
        | (refine Lex.quiet (v := ?_) (by rfl) (by rfl) ?_ ?_; rotate_left; (focus (intro w' hS'; go_simp; try rfl)); (try simp only [Act.put, List.setIfInBounds_toArray, List.set_cons_zero, List.set_cons_succ])))
      refine Lex.loud (by rfl) (by rfl) ?_
      intro K' hK'
      go_simp
      refine S1.out.mono ?_
      rintro e w12 ⟨rfl, r12⟩
      have F12 := Lib.hid r12
      clear r12
      refine hK' _ _ (⟨F12.out.cell HP11.out (by simp), HI11.out.fr F12.out, HF11.out.fr F12.out, HA11.out.fr F12.out⟩) ?_
      clear hK'
      try simp only [Act.put, List.setIfInBounds_toArray, List.set_cons_zero, List.set_cons_succ]
      repeat (first
        | (refine Lex.skips (by rfl) ?_; (try simp only [Act.put, List.setIfInBounds_toArray, List.set_cons_zero, List.set_cons_succ]))
        | (refine Lex.into (by rfl) (by rfl) _ _ rfl _ _ rfl _ _ (fun w' h => h.2.1) Try.underlying35 rfl (by rw [Try.infoIns]; rfl) ?_; (try simp only [Act.put, List.setIfInBounds_toArray, List.set_cons_zero, List.set_cons_succ]))
        | (refine Lex.into (by rfl) (by rfl) _ _ rfl _ _ rfl _ _ (fun w' h => h.2.2.1) Try.underlying42 rfl (by rw [Try.infoFault]; rfl) ?_; (try simp only [Act.put, List.setIfInBounds_toArray, List.set_cons_zero, List.set_cons_succ]))
        | (refine Lex.into (by rfl) (by rfl) _ _ rfl _ _ rfl _ _ (fun w' h => h.2.2.2) Try.underlying35 rfl (by rw [Try.infoIns]; rfl) ?_; (try simp only [Act.put, List.setIfInBounds_toArray, List.set_cons_zero, List.set_cons_succ]))
        | (refine Lex.quiet (v := ?_) (by rfl) (by rfl) ?_ ?_; rotate_left; (focus (intro w' hS'; go_simp; try rfl)); (try simp only [Act.put, List.setIfInBounds_toArray, List.set_cons_zero, List.set_cons_succ])))
      refine Lex.loud (by rfl) (by rfl) ?_
      intro K' hK'
      go_simp
      refine (S2.out _ F12.out).mono ?_
      rintro e w13 ⟨rfl, r13⟩
      have F13 := Lib.hid (F12.out.trans r13)
      clear r13
      refine hK' _ _ (⟨F13.out.cell HP11.out (by simp), HI11.out.fr F13.out, HF11.out.fr F13.out, HA11.out.fr F13.out⟩) ?_
      clear hK'
      try simp only [Act.put, List.setIfInBounds_toArray, List.set_cons_zero, List.set_cons_succ]
      repeat (first
        | (refine Lex.skips (by rfl) ?_; (try simp only [Act.put, List.setIfInBounds_toArray, List.set_cons_zero, List.set_cons_succ]))
        | (refine Lex.into (by rfl) (by rfl) _ _ rfl _ _ rfl _ _ (fun w' h => h.2.1) Try.underlying35 rfl (by rw [Try.infoIns]; rfl) ?_; (try simp only [Act.put, List.setIfInBounds_toArray, List.set_cons_zero, List.set_cons_succ]))
        | (refine Lex.into (by rfl) (by rfl) _ _ rfl _ _ rfl _ _ (fun w' h => h.2.2.1) Try.underlying42 rfl (by rw [Try.infoFault]; rfl) ?_; (try simp only [Act.put, List.setIfInBounds_toArray, List.set_cons_zero, List.set_cons_succ]))
        | (refine Lex.into (by rfl) (by rfl) _ _ rfl _ _ rfl _ _ (fun w' h => h.2.2.2) Try.underlying35 rfl (by rw [Try.infoIns]; rfl) ?_; (try simp only [Act.put, List.setIfInBounds_toArray, List.set_cons_zero, List.set_cons_succ]))
        | (refine Lex.quiet (v := ?_) (by rfl) (by rfl) ?_ ?_; rotate_left; (focus (intro w' hS'; go_simp; try rfl)); (try simp only [Act.put, List.setIfInBounds_toArray, List.set_cons_zero, List.set_cons_succ])))
      refine Lex.loud (by rfl) (by rfl) ?_
      intro K' hK'
      go_simp
      refine (S3.out _ F13.out).mono ?_
      rintro e w14 ⟨rfl, r14⟩
      have F14 := Lib.hid (F13.out.trans r14)
      clear r14
      refine hK' _ _ (⟨F14.out.cell HP11.out (by simp), HI11.out.fr F14.out, HF11.out.fr F14.out, HA11.out.fr F14.out⟩) ?_
      clear hK'
      try simp only [Act.put, List.setIfInBounds_toArray, List.set_cons_zero, List.set_cons_succ]
      repeat (first
        | (refine Lex.skips (by rfl) ?_; (try simp only [Act.put, List.setIfInBounds_toArray, List.set_cons_zero, List.set_cons_succ]))
        | (refine Lex.quiet (v := ?_) (by rfl) (by rfl) ?_ ?_; rotate_left; (focus (intro w' hS'; go_simp; try rfl)); (try simp only [Act.put, List.setIfInBounds_toArray, List.set_cons_zero, List.set_cons_succ])))
      refine Lex.done ?_
      refine Lex.ends ?_
      have FF := Lib.hid (F11.out.trans F14.out)
      clear F11 F12 F13 F14
      go_wp2_with fail
      go_roundw
      case rel => exact ⟨k + 1, by omega, by go_num, by rw [HNQ.out]; go_num, FF⟩
      case measure => first | (simp [intOf]; done) | (simp [intOf]; omega)
    · obtain rfl : k = is.length := by omega
      rw [List.take_length]
      have FR := Lib.hid (R8.out.trans hfr.out)
      generalize (bytesOf is).length = bl at *
      go_wp2_with fail
      go_ret
      exact ⟨by simp, FR.out⟩


/-- instructions that were handed in -/
theorem code_of {n : Nat} {v : Value} {d : Dt} (h : Rd Try.prog w n 22 [v] d) : ∃ (sa : Option Addr) (c : Nat) (is : List Ix), v = .slice sa is.length c ∧ CodeIn w sa is ∧ is.length ≤ maxLen ∧ (∀ i ∈ is, i.l.length ≤ maxLen) ∧ ∀ i ∈ is, rng i.N := by
  obtain ⟨l, sa, cap, -, hcs, h1, h2, h3, h4⟩ := h.rows (z := 6) Try.underlying22 (by kernel_rfl) (by decide)
  obtain rfl : v = .slice sa l.length cap := by simpa using hcs
  have hd : ∀ i, i < l.length → ∃ ix : Ix, ix.l.length ≤ maxLen ∧ rng ix.N ∧ ∃ b o u, sa = some ⟨b, o, none⟩ ∧ InsIn w b (o + i * 6) ix u := by
    intro i hi
    obtain ⟨b, o, es, rfl, h5, h6, h7⟩ := h4 i hi
    obtain ⟨o', A, B, C, N, u, al, rfl, hr, hm, -, -, -, -, -, hN⟩ := ins_of h7
    refine ⟨⟨o', A, B, C, N, al⟩, hm, ?_, b, o, u, rfl, ⟨fun j v hj => h6 j v hj, hr⟩⟩
    have h8 : IntKind.i64.min ≤ N ∧ N ≤ IntKind.i64.max := by simpa [Lit.wf] using hN
    have h9 : IntKind.i64.min = -9223372036854775808 := by decide
    have h10 : IntKind.i64.max = 9223372036854775807 := by decide
    unfold rng
    dsimp only
    omega
  obtain ⟨is, hl, hp⟩ := list_of_each hd
  refine ⟨sa, cap, is, by rw [hl], fun k hk => (hp k hk).2.2, by omega, fun i hi => ?_, fun i hi => ?_⟩
  · obtain ⟨k, hk, rfl⟩ := List.getElem_of_mem hi
    exact (hp k hk).1
  · obtain ⟨k, hk, rfl⟩ := List.getElem_of_mem hi
    exact (hp k hk).2.1
theorem back_rd (w : World) (v : Value) {n : Nat} {d : Dt} (h : Rd Try.prog w n 22 [v] d) :
    Calls Try.prog 7 #[v] w fun e w' => e = .returned (.bool true) ∧ Fr no w w' := by
  obtain ⟨sa, c, is, rfl, h1, h2, h3, h4⟩ := code_of h
  exact back_ok w sa c is h1 h2 h3 h4
theorem apart_rd (w : World) (s0 s1 : Array Value) {n0 n1 : Nat} {d0 d1 : Dt} (h0 : Rd Try.prog w n0 35 s0.toList d0) (h1 : Rd Try.prog w n1 35 s1.toList d1) :
    Calls Try.prog 4 #[.agg s0, .agg s1] w fun e w' => e = .returned (.bool true) ∧ Fr no w w' := by
  obtain ⟨o, A, B, C, N, u, l, hs, hr, hm, -, -, -, -, -, hN⟩ := ins_of h0
  obtain rfl : s0 = #[.int .i64 o, .int .i64 A, .int .i64 B, .int .i64 C, .int .i64 N, u] := Array.ext' hs
  obtain ⟨o', A', B', C', N', v, m, hs', hr', hm', -, -, -, -, -, hN'⟩ := ins_of h1
  obtain rfl : s1 = #[.int .i64 o', .int .i64 A', .int .i64 B', .int .i64 C', .int .i64 N', v] := Array.ext' hs'
  have hrng : ∀ N : Int, (Lit.int .i64 N).wf = true → rng N := fun N hN => by
    have h8 : IntKind.i64.min ≤ N ∧ N ≤ IntKind.i64.max := by simpa [Lit.wf] using hN
    have h9 : IntKind.i64.min = -9223372036854775808 := by decide
    have h10 : IntKind.i64.max = 9223372036854775807 := by decide
    unfold rng
    omega
  exact apart_ok w ⟨o, A, B, C, N, l⟩ ⟨o', A', B', C', N', m⟩ u v hr hr' hm hm' (hrng N hN) (hrng N' hN')

end Go.Proofs.Ytajfhgphbcmmhaa

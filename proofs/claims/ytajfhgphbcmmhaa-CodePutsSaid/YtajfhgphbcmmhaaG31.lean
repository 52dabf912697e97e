import Derived.Test.YtajfhgphbcmmhaaLJ
import Derived.Test.YtajfhgphbcmmhaaLH
set_option linter.unusedSimpArgs false
set_option linter.unusedVariables false
set_option linter.unusedSectionVars false
set_option linter.unnecessarySimpa false
namespace Go.Proofs.Ytajfhgphbcmmhaa
open Go.RowKit

attribute [local go_sem] Program.isFuncB Program.isSliceB

variable {w w' w'' w0 : World}

theorem Lent.frx {base : Nat} {v : Value} {bs : List Nat} {S : Nat → Prop} (h : Lent w base v bs) (r : Fr S w w') (hS : ∀ k, v.ownBlock = some k → ¬ S k) : Lent w' base v bs := by
  obtain ⟨g, c, h1, h2, h3, cur, h4, h5, h6, h7⟩ := h.row
  exact ⟨g, c, h1, h2, h3, cur, r.heap h4 (hS g (by rw [h1]; rfl)), h5, h6, h7⟩
theorem Lent.old {base : Nat} {v : Value} {bs : List Nat} (h : Lent w base v bs) : ∀ k, v.ownBlock = some k → k < w.heap.size := by
  obtain ⟨g, c, rfl, h2, h3, cur, h4, h5, h6, h7⟩ := h.row
  intro k hk
  cases hk
  exact (Array.getElem?_eq_some_iff.1 h4).1
theorem Lent.bytes {base : Nat} {v : Value} {bs : List Nat} (h : Lent w base v bs) (hk : ∀ x ∈ bs, x < 256) (hl : bs.length ≤ 100000) : Bytes w v bs := ⟨h.reads.1, hk, hl, h.old⟩

/-- what Split hands back, read -/
structure SplitV (w w' : World) (sp : Sp) (a : Option Addr) (c : Nat) (v : Value) : Prop where
  code : CodeIn w' a sp.is
  places : w'.ownsRow (w.heap.size + 1) 3 1 v sp.ps.length (ints sp.ps)
  fr : Fr no w w'
  few : ∀ i ∈ sp.is, i.l.length ≤ 8
theorem splitR_few (bs : List Nat) : ∀ (f : Nat) (is : List Ix) (ps : List Int) (a : Nat), (∀ i ∈ is, i.l.length ≤ 8) → ∀ i ∈ (splitR bs f is ps a).is, i.l.length ≤ 8
  | 0, is, ps, a, h => h
  | f + 1, is, ps, a, h => by
    unfold splitR
    split
    · exact h
    split
    · intro i hi; cases hi
    · rename_i h2
      refine splitR_few bs f _ _ _ (fun i hi => ?_)
      rw [List.mem_append, List.mem_singleton] at hi
      rcases hi with hi | rfl
      · exact h i hi
      · rcases getR_cases bs a with ⟨-, hf⟩ | ⟨hf, -⟩
        · exact hf.few
        · exact absurd hf h2
theorem splitR_len (bs : List Nat) : ∀ (f : Nat) (is : List Ix) (ps : List Int) (a : Nat), is.length ≤ a → ps.length = is.length → a ≤ bs.length → (splitR bs f is ps a).is.length ≤ bs.length ∧ (splitR bs f is ps a).ps.length = (splitR bs f is ps a).is.length
  | 0, is, ps, a, h, h2, h3 => ⟨Nat.le_trans h h3, h2⟩
  | f + 1, is, ps, a, h, h2, h3 => by
    unfold splitR
    split
    · exact ⟨Nat.le_trans h h3, h2⟩
    split
    · exact ⟨Nat.zero_le _, rfl⟩
    · rename_i h4
      rcases getR_cases bs a with ⟨-, hf⟩ | ⟨hf, -⟩
      · obtain ⟨n, hn, h5, h6⟩ := hf.next
        rw [hn, Int.toNat_natCast]
        exact splitR_len bs f _ _ n (by simp; omega) (by simp [h2]) h6
      · exact absurd hf h4
theorem splitR_opened {w w' : World} {bs : List Nat} {e : Ending} (h : SplitR w (splitR bs (bs.length + 1) [] [] 0) e w') : ∃ a c v, e = .returned (.tuple #[.slice a (splitR bs (bs.length + 1) [] [] 0).is.length c, v, .agg #[.int .i64 (splitR bs (bs.length + 1) [] [] 0).er, .int .i64 (splitR bs (bs.length + 1) [] [] 0).fa]]) ∧ SplitV w w' (splitR bs (bs.length + 1) [] [] 0) a c v := by
  obtain ⟨u, v, l, h1, h2, h3, h4, h5, h6, h7, h8, h9⟩ := h
  obtain ⟨a, c, rfl, h10⟩ := codeIn_owns h3 (fun p hp => owns_reads (h4 p hp))
  have h11 : l.length = (splitR bs (bs.length + 1) [] [] 0).is.length := by rw [← h2]; simp
  refine ⟨a, c, v, by rw [h1, h11], ?_, h7, h9, splitR_few _ _ _ _ _ (by intro i hi; cases hi)⟩
  rw [← h2]
  exact h10
theorem split_v (w : World) (bv : Value) (bs : List Nat) (hb : Bytes w bv bs) (hl : bs.length ≤ 4096) :
    Calls Try.prog 25 #[bv] w fun e w' => ∃ a c v, e = .returned (.tuple #[.slice a (splitR bs (bs.length + 1) [] [] 0).is.length c, v, .agg #[.int .i64 (splitR bs (bs.length + 1) [] [] 0).er, .int .i64 (splitR bs (bs.length + 1) [] [] 0).fa]]) ∧ SplitV w w' (splitR bs (bs.length + 1) [] [] 0) a c v :=
  (split_ok w bv bs hb hl).mono fun _ _ h => splitR_opened h
theorem refsplit_v (w : World) (bv : Value) (bs : List Nat) (hb : Bytes w bv bs) (hl : bs.length ≤ 4096) :
    Calls Try.prog 26 #[bv] w fun e w' => ∃ a c v, e = .returned (.tuple #[.slice a (splitR bs (bs.length + 1) [] [] 0).is.length c, v, .agg #[.int .i64 (splitR bs (bs.length + 1) [] [] 0).er, .int .i64 (splitR bs (bs.length + 1) [] [] 0).fa]]) ∧ SplitV w w' (splitR bs (bs.length + 1) [] [] 0) a c v :=
  (refsplit_ok w bv bs hb hl).mono fun _ _ h => splitR_opened h

set_option maxRecDepth 100000 in
set_option maxHeartbeats 8000000 in
theorem gets_ok (w : World) (bv : Value) (bs : List Nat) (at' : Int) (hb : Reads w bv 1 bs.length (u8s bs)) (hk : ∀ b ∈ bs, b < 256) (hl : bs.length ≤ maxLen) (hold : ∀ k, bv.ownBlock = some k → k < w.heap.size) :
    Calls Try.prog 5 #[bv, .int .i64 at'] w fun e w' => e = .returned (.bool true) ∧ Fr no w w' := by
  obtain ⟨ba, bc, rfl⟩ := hb.shape
  unfold maxLen at hl
  by_cases h6 : 600 < bs.length
  · have h6' : (600 : Int) < bs.length := by omega
    clear hb hk hold
    have HA := Lib.hid (fun w1 => awake_ok w1)
    go_enter Try.func5, Try.ntmps5
    go_wp2_with fail
    refine (HA.out _).mono ?_
    rintro e w1 ⟨rfl, r1⟩
    have R1 := Lib.hid r1
    clear r1
    go_wp2_with fail
    go_ret
    exact ⟨rfl, R1.out⟩
  have h6' : ¬ (600 : Int) < bs.length := by omega
  have HB := Lib.hid (Bytes.mk hb hk (by omega) hold)
  have HK := Lib.hid hk
  have HLB := Lib.hid (lentbytes_ok w _ bs hb (by omega))
  obtain ⟨T, hT⟩ : ∃ t, t = getR bs at' := ⟨_, rfl⟩
  obtain ⟨SP, hSP⟩ : ∃ t, t = splitR bs (bs.length + 1) [] [] 0 := ⟨_, rfl⟩
  have HT := Lib.hid hT
  have HSP := Lib.hid hSP
  have HSL := Lib.hid (splitR_len bs (bs.length + 1) [] [] 0 (Nat.le_refl _) rfl (Nat.zero_le _))
  rw [← hSP] at HSL
  have hsl := HSL.out.1
  have hfew : T.ix.l.length ≤ 8 := by
    rcases getR_cases bs at' with ⟨-, hf⟩ | ⟨-, hf, -⟩
    · rw [hT]; exact hf.few
    · rw [hT, hf]; exact Nat.zero_le _
  clear hb hk hold hT hSP
  go_enter Try.func5, Try.ntmps5
  go_wp2_with fail
  refine HLB.out.mono ?_
  rintro e w1 ⟨lv, rfl, hL, r1⟩
  have HL1 := Lib.hid hL
  have R1 := Lib.hid r1
  have hlold := hL.old
  have HLO := Lib.hid hlold
  have HG := Lib.hid (get_any w1 lv bs at' (hL.bytes HK.out (by omega)))
  rw [← HT.out] at HG
  clear hL r1 hlold
  go_wp2_with fail
  refine HG.out.mono ?_
  rintro e w2 ⟨u2, rfl, hu2, r2⟩
  obtain ⟨u2a, u2c, rfl⟩ := owns_shape hu2
  unfold resV
  have HU2 := Lib.hid (owns_reads hu2)
  have R2 := Lib.hid (R1.out.trans r2)
  have Q2 := Lib.hid r2
  clear hu2 r2
  have HW0 := Lib.hid (RW.start w2 zeroIns 0 0)
  unfold zeroIns at HW0
  have HW1 := Lib.hid (HW0.out.set1 #[.int .i64 T.ix.o, .int .i64 T.ix.A, .int .i64 T.ix.B, .int .i64 T.ix.C, .int .i64 T.ix.N, .slice u2a T.ix.l.length u2c])
  have HW2 := Lib.hid (HW1.out.set2 T.er T.fa)
  go_upto_region 5 with (first
    | (refine wpList_store_row rfl 35 (.tmp 6) (.tmp 29) rfl w2.heap.size #[.int .i64 T.ix.o, .int .i64 T.ix.A, .int .i64 T.ix.B, .int .i64 T.ix.C, .int .i64 T.ix.N, .slice u2a T.ix.l.length u2c] rfl rfl _ _ HW0.out.ins (by rw [Try.infoIns]; rfl) rfl (by simp [Value.oneCell']) ?_; rw [act_put_none])
    | (refine wpList_store_row rfl 42 (.tmp 8) (.tmp 31) rfl (w2.heap.size + 1) #[.int .i64 T.er, .int .i64 T.fa] rfl rfl _ _ HW1.out.fault (by rw [Try.infoFault]; rfl) rfl (by simp [Value.oneCell']) ?_; rw [act_put_none]))
  clear HW0 HW1
  generalize World.setRow _ (w2.heap.size + 1) #[.int .i64 T.er, .int .i64 T.fa] = w3 at *
  have HU3 := Lib.hid (HU2.out.fr HW2.out.fr (by simp))
  have HI3 := Lib.hid HW2.out.ins
  have HF3 := Lib.hid HW2.out.fault
  have R3 := Lib.hid (R2.out.trans HW2.out.fr)
  have Q3 := Lib.hid (Q2.out.trans HW2.out.fr)
  clear HW2 HU2 R2 Q2
  have HL3 := Lib.hid (HL1.out.fr Q3.out)
  clear Q3
  have HG := Lib.hid (refget_any w3 _ bs at' (HB.out.fr R3.out))
  rw [← HT.out] at HG
  go_wp2_with fail
  refine HG.out.mono ?_
  rintro e w4 ⟨u4, rfl, hu4, r4⟩
  obtain ⟨u4a, u4c, rfl⟩ := owns_shape hu4
  unfold resV
  have HU4 := Lib.hid (owns_reads hu4)
  have R4 := Lib.hid (R3.out.trans r4)
  have Q4 := Lib.hid r4
  clear hu4 r4
  have HW0 := Lib.hid (RW.start w4 zeroIns 0 0)
  unfold zeroIns at HW0
  have HW1 := Lib.hid (HW0.out.set1 #[.int .i64 T.ix.o, .int .i64 T.ix.A, .int .i64 T.ix.B, .int .i64 T.ix.C, .int .i64 T.ix.N, .slice u4a T.ix.l.length u4c])
  have HW2 := Lib.hid (HW1.out.set2 T.er T.fa)
  go_upto_region 6 with (first
    | (refine wpList_store_row rfl 35 (.tmp 9) (.tmp 36) rfl w4.heap.size #[.int .i64 T.ix.o, .int .i64 T.ix.A, .int .i64 T.ix.B, .int .i64 T.ix.C, .int .i64 T.ix.N, .slice u4a T.ix.l.length u4c] rfl rfl _ _ HW0.out.ins (by rw [Try.infoIns]; rfl) rfl (by simp [Value.oneCell']) ?_; rw [act_put_none])
    | (refine wpList_store_row rfl 42 (.tmp 11) (.tmp 38) rfl (w4.heap.size + 1) #[.int .i64 T.er, .int .i64 T.fa] rfl rfl _ _ HW1.out.fault (by rw [Try.infoFault]; rfl) rfl (by simp [Value.oneCell']) ?_; rw [act_put_none]))
  clear HW0 HW1
  generalize World.setRow _ (w4.heap.size + 1) #[.int .i64 T.er, .int .i64 T.fa] = w5 at *
  have HU5 := Lib.hid (HU4.out.fr HW2.out.fr (by simp))
  have HI5 := Lib.hid HW2.out.ins
  have HF5 := Lib.hid HW2.out.fault
  have R5 := Lib.hid (R4.out.trans HW2.out.fr)
  have Q5 := Lib.hid (Q4.out.trans HW2.out.fr)
  clear HW2 HU4 R4 Q4
  have HL5 := Lib.hid (HL3.out.fr Q5.out)
  have HI3b := Lib.hid (Q5.out.heap HI3.out (by simp))
  have HF3b := Lib.hid (Q5.out.heap HF3.out (by simp))
  have HU3b := Lib.hid (HU3.out.fr Q5.out (by simp))
  clear Q5 HI3 HF3 HU3 HG HL3 HL1
  have HS := Lib.hid (split_v w5 lv bs (HL5.out.bytes HK.out (by omega)) (by omega))
  rw [← HSP.out] at HS
  go_wp2_with fail
  refine HS.out.mono ?_
  rintro e w6 ⟨s6a, s6c, v6, rfl, hs6⟩
  have HC6 := Lib.hid hs6.code
  have HP6 := Lib.hid hs6.places
  have HFW6 := Lib.hid hs6.few
  have R6 := Lib.hid (R5.out.trans hs6.fr)
  have Q6 := Lib.hid hs6.fr
  clear hs6
  have HX0 := Lib.hid (heap_new w6 (.cells #[.int .i64 0, .int .i64 0] 42))
  go_upto_region 7 with (refine wpList_store_row rfl 42 (.tmp 14) (.tmp 44) rfl w6.heap.size #[.int .i64 SP.er, .int .i64 SP.fa] rfl rfl _ _ HX0.out (by rw [Try.infoFault]; rfl) rfl (by simp [Value.oneCell']) ?_; rw [act_put_none])
  have HF7 := Lib.hid (setRow_heap _ w6.heap.size _ #[.int .i64 SP.er, .int .i64 SP.fa] _ _ HX0.out)
  have ra := (Fr.refl no w6).alloc (.cells #[.int .i64 0, .int .i64 0] 42)
  have rb := ra.trans' (fr_setRow (g := w6.heap.size) (cs := #[.int .i64 SP.er, .int .i64 SP.fa]) (Fr.refl (only [w6.heap.size]) _) (.inl (by simp))) (fun k hk _ => by simp at hk; omega)
  have HC7 := Lib.hid (HC6.out.fr rb)
  have HP7 := Lib.hid (owns_fr HP6.out rb (by simp))
  have R7 := Lib.hid (R6.out.trans rb)
  have Q7 := Lib.hid (Q6.out.trans rb)
  clear ra rb HX0 HC6 HP6 R6 Q6 HS
  generalize World.setRow _ w6.heap.size #[.int .i64 SP.er, .int .i64 SP.fa] = w7 at *
  have HL7 := Lib.hid (HL5.out.fr Q7.out)
  have HI3c := Lib.hid (Q7.out.heap HI3b.out (by simp))
  have HF3c := Lib.hid (Q7.out.heap HF3b.out (by simp))
  have HU3c := Lib.hid (HU3b.out.fr Q7.out (by simp))
  have HI5c := Lib.hid (Q7.out.heap HI5.out (by simp))
  have HF5c := Lib.hid (Q7.out.heap HF5.out (by simp))
  have HU5c := Lib.hid (HU5.out.fr Q7.out (by simp))
  clear Q7 HI3b HF3b HU3b HI5 HF5 HU5
  have hlo5 : ∀ k, lv.ownBlock = some k → k < w5.heap.size := HL5.out.old
  have HLO5 := Lib.hid hlo5
  clear hlo5 HL5
  have HS := Lib.hid (refsplit_v w7 _ bs (HB.out.fr R7.out) (by omega))
  rw [← HSP.out] at HS
  go_wp2_with fail
  refine HS.out.mono ?_
  rintro e w8 ⟨s8a, s8c, v8, rfl, hs8⟩
  have HC8 := Lib.hid hs8.code
  have HP8 := Lib.hid hs8.places
  have HFW8 := Lib.hid hs8.few
  have R8 := Lib.hid (R7.out.trans hs8.fr)
  have Q8 := Lib.hid hs8.fr
  clear hs8
  have HX0 := Lib.hid (heap_new w8 (.cells #[.int .i64 0, .int .i64 0] 42))
  go_upto_region 8 with (refine wpList_store_row rfl 42 (.tmp 17) (.tmp 50) rfl w8.heap.size #[.int .i64 SP.er, .int .i64 SP.fa] rfl rfl _ _ HX0.out (by rw [Try.infoFault]; rfl) rfl (by simp [Value.oneCell']) ?_; rw [act_put_none])
  have HF9 := Lib.hid (setRow_heap _ w8.heap.size _ #[.int .i64 SP.er, .int .i64 SP.fa] _ _ HX0.out)
  have ra := (Fr.refl no w8).alloc (.cells #[.int .i64 0, .int .i64 0] 42)
  have rb := ra.trans' (fr_setRow (g := w8.heap.size) (cs := #[.int .i64 SP.er, .int .i64 SP.fa]) (Fr.refl (only [w8.heap.size]) _) (.inl (by simp))) (fun k hk _ => by simp at hk; omega)
  have HC9 := Lib.hid (HC8.out.fr rb)
  have HP9 := Lib.hid (owns_fr HP8.out rb (by simp))
  have R9 := Lib.hid (R8.out.trans rb)
  have Q9 := Lib.hid (Q8.out.trans rb)
  clear ra rb HX0 HC8 HP8 R8 Q8 HS
  generalize World.setRow _ w8.heap.size #[.int .i64 SP.er, .int .i64 SP.fa] = w9 at *
  have HL9 := Lib.hid (HL7.out.fr Q9.out)
  have HI3d := Lib.hid (Q9.out.heap HI3c.out (by simp))
  have HF3d := Lib.hid (Q9.out.heap HF3c.out (by simp))
  have HU3d := Lib.hid (HU3c.out.fr Q9.out (by simp))
  have HI5d := Lib.hid (Q9.out.heap HI5c.out (by simp))
  have HF5d := Lib.hid (Q9.out.heap HF5c.out (by simp))
  have HU5d := Lib.hid (HU5c.out.fr Q9.out (by simp))
  have HF7d := Lib.hid (Q9.out.heap HF7.out (by simp))
  have HC7d := Lib.hid (HC7.out.fr Q9.out)
  have HP7d := Lib.hid (owns_fr HP7.out Q9.out (by simp))
  clear Q9 HI3c HF3c HU3c HI5c HF5c HU5c HF7 HC7 HP7 HL7
  obtain ⟨p7a, p7c, rfl⟩ := owns_shape HP7d.out
  obtain ⟨p9a, p9c, rfl⟩ := owns_shape HP9.out
  have HLL := Lib.hid HSL.out.2
  have si0 := sameins_ok w9 T.ix.o T.ix.A T.ix.B T.ix.C T.ix.N T.ix.o T.ix.A T.ix.B T.ix.C T.ix.N _ _ T.ix.l T.ix.l HU3d.out HU5d.out (by omega)
  rw [show decide (T.ix.o = T.ix.o ∧ T.ix.A = T.ix.A ∧ T.ix.B = T.ix.B ∧ T.ix.C = T.ix.C ∧ T.ix.N = T.ix.N ∧ T.ix.l = T.ix.l) = true from by simp] at si0
  have SI := Lib.hid si0
  clear si0
  unfold insV at SI
  obtain ⟨a0, a1, a2, a3, a4, a5⟩ := cells6 HI3d.out
  obtain ⟨b0, b1, b2, b3, b4, b5⟩ := cells6 HI5d.out
  have f0 := cell_of_heap (o := 0) HF3d.out rfl
  have f1 := cell_of_heap (o := 1) HF3d.out rfl
  have g0 := cell_of_heap (o := 0) HF5d.out rfl
  have g1 := cell_of_heap (o := 1) HF5d.out rfl
  go_wp2_with fail
  refine SI.out.mono ?_
  rintro e w10 ⟨rfl, r10⟩
  have R10 := Lib.hid (R9.out.trans r10)
  have HF3e := Lib.hid (r10.heap HF3d.out (by simp))
  have HF5e := Lib.hid (r10.heap HF5d.out (by simp))
  have Q10 := Lib.hid r10
  clear r10 a0 a1 a2 a3 a4 a5 b0 b1 b2 b3 b4 b5 f0 f1 g0 g1
  have sc0 := samecode_ok w10 s6a s8a s6c s8c SP.is SP.is (HC7d.out.fr Q10.out) (HC9.out.fr Q10.out) (by omega) (fun i hi => by have := HFW6.out i hi; omega) (by omega)
  rw [show decide (SP.is = SP.is) = true from decide_eq_true rfl] at sc0
  have SC := Lib.hid sc0
  clear sc0
  have f0 := cell_of_heap (o := 0) HF3e.out rfl
  have f1 := cell_of_heap (o := 1) HF3e.out rfl
  have g0 := cell_of_heap (o := 0) HF5e.out rfl
  have g1 := cell_of_heap (o := 1) HF5e.out rfl
  go_wp2_with fail
  refine SC.out.mono ?_
  rintro e w11 ⟨rfl, r11⟩
  have R11 := Lib.hid (R10.out.trans r11)
  have Q11 := Lib.hid (Q10.out.trans r11)
  clear r11 Q10 f0 f1 g0 g1
  have sn0 := same_ints w11 _ _ SP.ps SP.ps ((owns_reads HP7d.out).fr Q11.out (by simp)) ((owns_reads HP9.out).fr Q11.out (by simp)) (by have := HLL.out; omega)
  rw [show decide (SP.ps = SP.ps) = true from decide_eq_true rfl] at sn0
  have SN := Lib.hid sn0
  clear sn0
  go_wp2_with fail
  refine SN.out.mono ?_
  rintro e w12 ⟨rfl, q12, rfl⟩
  have R12 := Lib.hid (R11.out.drewN q12)
  have Q12 := Lib.hid (Q11.out.drewN q12)
  generalize w11.drewN q12 = w12 at *
  have HF7e := Lib.hid (Q12.out.heap HF7d.out (by simp))
  have HF9e := Lib.hid (Q12.out.heap HF9.out (by simp))
  have f0 := cell_of_heap (o := 0) HF7e.out rfl
  have f1 := cell_of_heap (o := 1) HF7e.out rfl
  have g0 := cell_of_heap (o := 0) HF9e.out rfl
  have g1 := cell_of_heap (o := 1) HF9e.out rfl
  have HOV := Lib.hid (overints_ok w12 (w5.heap.size + 1) _ _ _ (owns_fr HP7d.out Q12.out (by simp)))
  have HPL := Lib.hid (fun k (hk : (Value.slice p7a SP.ps.length p7c).ownBlock = some k) => (HP7d.out.lt k hk).1)
  clear Q11
  go_wp2_with fail
  refine HOV.out.mono ?_
  rintro e w13 ⟨rfl, r13⟩
  have hsz : w.heap.size ≤ w5.heap.size := R5.out.size
  have R13 := Lib.hid (R12.out.trans' r13 (fun k hk _ => by have := HPL.out k hk; omega))
  have HL13 := Lib.hid ((HL9.out.fr Q12.out).frx r13 (fun k hk e => by have := HPL.out k e; have := HLO5.out k hk; omega))
  have KB := Lib.hid (keptbytes_ok w13 _ lv _ bs HL13.out (HB.out.reads.fr R13.out (by simp)) HK.out (by omega))
  clear r13 f0 f1 g0 g1
  go_wp2_with fail
  refine KB.out.mono ?_
  rintro e w14 ⟨rfl, r14⟩
  have R14 := Lib.hid (R13.out.trans r14)
  have AW := Lib.hid (awake_ok w14)
  clear r14
  go_wp2_with fail
  refine AW.out.mono ?_
  rintro e w15 ⟨rfl, r15⟩
  have R15 := Lib.hid (R14.out.trans r15)
  clear r15
  go_wp2_with fail
  go_ret
  exact ⟨rfl, R15.out⟩

/-- bytes that were handed in -/
theorem bytes_of {n : Nat} {v : Value} {d : Dt} (h : Rd Try.prog w n 26 [v] d) : ∃ bs : List Nat, Reads w v 1 bs.length (u8s bs) ∧ (∀ b ∈ bs, b < 256) ∧ bs.length ≤ maxLen := by
  obtain ⟨zs, -, hr, hz, hm⟩ := Rd.reads (v := v) Try.underlying26 Try.underlying5 (by kernel_rfl) h
  have hp : ∀ z ∈ zs, 0 ≤ z ∧ z < 256 := fun z h => by
    have h1 : IntKind.u8.min ≤ z ∧ z ≤ IntKind.u8.max := by simpa [Lit.wf] using hz z h
    have h2 : IntKind.u8.min = 0 := by decide
    have h3 : IntKind.u8.max = 255 := by decide
    omega
  refine ⟨zs.map Int.toNat, ?_, fun b hb => ?_, by simpa using hm⟩
  · have e : u8s (zs.map Int.toNat) = zs.map (.int .u8) := by
      unfold u8s
      rw [List.map_map]
      refine List.map_congr_left fun z h => ?_
      have := hp z h
      simp only [Function.comp]
      rw [Int.toNat_of_nonneg this.1]
    rw [e, List.length_map]
    exact hr
  · obtain ⟨z, h, rfl⟩ := List.mem_map.1 hb
    have := hp z h
    omega
theorem gets_rd (w : World) (v : Value) {n : Nat} {d : Dt} (h : Rd Try.prog w n 26 [v] d) (ho : ∀ k, v.ownBlock = some k → k < w.heap.size) (at' : Int) :
    Calls Try.prog 5 #[v, .int .i64 at'] w fun e w' => e = .returned (.bool true) ∧ Fr no w w' := by
  obtain ⟨bs, h1, h2, h3⟩ := bytes_of h
  exact gets_ok w v bs at' h1 h2 h3 ho

end Go.Proofs.Ytajfhgphbcmmhaa

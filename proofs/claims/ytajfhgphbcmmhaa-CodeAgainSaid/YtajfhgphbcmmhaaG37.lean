import Derived.Test.YtajfhgphbcmmhaaG36
set_option linter.unusedSimpArgs false
set_option linter.unusedVariables false
set_option linter.unusedSectionVars false
set_option linter.unnecessarySimpa false
namespace Go.Proofs.Ytajfhgphbcmmhaa
open Go.RowKit

attribute [local go_sem] Program.isFuncB Program.isSliceB

variable {w w' w'' w0 : World}

theorem split_c (w : World) (bv : Value) (bs : List Nat) (hb : Bytes w bv bs) (hl : bs.length ≤ 4096) :
    Calls Try.prog 25 #[bv] w fun e w' => ∃ a c v, e = .returned (.tuple #[.slice a (splitR bs (bs.length + 1) [] [] 0).is.length c, v, .agg #[.int .i64 (splitR bs (bs.length + 1) [] [] 0).er, .int .i64 (splitR bs (bs.length + 1) [] [] 0).fa]]) ∧ SplitV w w' (splitR bs (bs.length + 1) [] [] 0) a c v ∧ (splitR bs (bs.length + 1) [] [] 0).is.length ≤ c := by
  refine (split_ok w bv bs hb hl).mono fun e w' h => ?_
  obtain ⟨u, v, l, h1, h2, h3, h4, h5, h6, h7, h8, h9⟩ := h
  obtain ⟨a, c, rfl, h10⟩ := codeIn_owns h3 (fun p hp => owns_reads (h4 p hp))
  have h11 : l.length = (splitR bs (bs.length + 1) [] [] 0).is.length := by rw [← h2]; simp
  refine ⟨a, c, v, by rw [h1, h11], ⟨?_, h7, h9, splitR_few _ _ _ _ _ (by intro i hi; cases hi)⟩, by rw [← h11]; exact reads_cap (owns_reads h3)⟩
  rw [← h2]
  exact h10

theorem fault_set (w : World) (er fa : Int) : Hid (((w.alloc (.cells #[.int .i64 0, .int .i64 0] 42)).setRow w.heap.size #[.int .i64 er, .int .i64 fa]).heap[w.heap.size]? = some (.cells #[.int .i64 er, .int .i64 fa] 42 (0, 0)) ∧
    Fr no w ((w.alloc (.cells #[.int .i64 0, .int .i64 0] 42)).setRow w.heap.size #[.int .i64 er, .int .i64 fa])) := by
  have ra := (Fr.refl no w).alloc (.cells #[.int .i64 0, .int .i64 0] 42)
  exact Lib.hid ⟨setRow_heap _ w.heap.size _ #[.int .i64 er, .int .i64 fa] _ _ (heap_new w _), ra.trans' (fr_setRow (g := w.heap.size) (cs := #[.int .i64 er, .int .i64 fa]) (Fr.refl (only [w.heap.size]) _) (.inl (by simp))) (fun k hk _ => by simp at hk; omega)⟩

theorem take_mem_succ (ps : List Int) (j : Nat) (z n : Int) (h : ps[j]? = some z) (P : Prop) [Decidable P] (h0 : decide (P ∨ n ∈ ps.take j) = false) : decide (P ∨ n ∈ ps.take (j + 1)) = (z == n) := by
  obtain ⟨hj, rfl⟩ := List.getElem?_eq_some_iff.1 h
  rw [decide_eq_false_iff_not] at h0
  rw [List.take_succ_eq_append_getElem hj]
  by_cases hz : ps[j] = n
  · rw [decide_eq_true (.inr (by simp [hz])), hz]; simp
  · rw [decide_eq_false (fun h1 => ?_)]
    · simp [hz]
    · rcases h1 with h1 | h1
      · exact h0 (.inl h1)
      · rw [List.mem_append, List.mem_singleton] at h1
        rcases h1 with h1 | h1
        · exact h0 (.inr h1)
        · exact hz h1.symm
theorem take_mem_true (ps : List Int) (j : Nat) (n : Int) (P : Prop) [Decidable P] (h0 : decide (P ∨ n ∈ ps.take j) = true) : decide (P ∨ n ∈ ps.take (j + 1)) = true := by
  rw [decide_eq_true_eq] at h0 ⊢
  rcases h0 with h0 | h0
  · exact .inl h0
  · exact .inr ((List.take_subset_take_left ps (Nat.le_succ j)) h0)

set_option maxRecDepth 100000 in
set_option maxHeartbeats 16000000 in
theorem again_ok (w : World) (bv : Value) (bs : List Nat) (cut : Int) (hcut : (Lit.int .i64 cut).wf = true) (hb : Reads w bv 1 bs.length (u8s bs)) (hk : ∀ b ∈ bs, b < 256) (hl : bs.length ≤ maxLen) (hold : ∀ k, bv.ownBlock = some k → k < w.heap.size) :
    Calls Try.prog 8 #[bv, .int .i64 cut] w fun e w' => e = .returned (.bool true) ∧ Fr no w w' := by
  obtain ⟨ba, bc, rfl⟩ := hb.shape
  unfold maxLen at hl
  have AW := Lib.hid (awake_ok w)
  by_cases h6 : 600 < bs.length
  · have h6' : (600 : Int) < bs.length := by omega
    clear hb hk hold
    go_enter Try.func8, Try.ntmps8
    go_wp2_with fail
    refine AW.out.mono ?_
    rintro e w1 ⟨rfl, r1⟩
    have R1 := Lib.hid r1
    clear r1
    go_wp2_with fail
    go_ret
    exact ⟨rfl, R1.out⟩
  have h6' : ¬ (600 : Int) < bs.length := by omega
  have HB := Lib.hid (Bytes.mk hb hk (by omega) hold)
  have HK := Lib.hid hk
  have hcap := reads_cap hb
  have HPK := pick_any
  have HSS := Lib.hid (split_spl bs hk)
  have HSL := Lib.hid (splitR_len bs (bs.length + 1) [] [] 0 (Nat.le_refl _) rfl (Nat.zero_le _))
  have HCL := Lib.hid (fun (h : Spl bs (splitR bs (bs.length + 1) [] [] 0)) n hn => cut_law bs hk _ h n hn)
  have HSP := Lib.hid (fun w1 (r : Fr no w w1) => split_c w1 _ bs (HB.out.fr r) (by omega))
  generalize splitR bs (bs.length + 1) [] [] 0 = sp at *
  clear hb hk hold
  have HPK2 := Lib.hid HPK
  clear HPK
  go_enter Try.func8, Try.ntmps8
  go_wp2_with fail
  refine AW.out.mono ?_
  rintro e w1 ⟨rfl, r1⟩
  have R1 := Lib.hid r1
  have HS1 := Lib.hid (HSP.out w1 r1)
  clear r1 AW HSP
  go_wp2_with fail
  refine HS1.out.mono ?_
  rintro e w2 ⟨ma, mc, pv, rfl, hs, hmc⟩
  have HC2 := Lib.hid hs.code
  have HP2 := Lib.hid (owns_reads hs.places)
  have HFW := Lib.hid hs.few
  have R2 := Lib.hid (R1.out.trans hs.fr)
  obtain ⟨pa, pc, rfl⟩ := owns_shape hs.places
  clear hs HS1
  have HX0 := Lib.hid (heap_new w2 (.cells #[.int .i64 0, .int .i64 0] 42))
  have FS := fault_set w2 sp.er sp.fa
  go_upto_region 5 with (refine wpList_store_row rfl 42 (.tmp 8) (.tmp 26) rfl w2.heap.size #[.int .i64 sp.er, .int .i64 sp.fa] rfl rfl _ _ HX0.out (by rw [Try.infoFault]; rfl) rfl (by simp [Value.oneCell']) ?_; rw [act_put_none])
  generalize World.setRow _ w2.heap.size #[.int .i64 sp.er, .int .i64 sp.fa] = w3 at *
  have R3 := Lib.hid (R2.out.trans FS.out.2)
  have HC3 := Lib.hid (HC2.out.fr FS.out.2)
  have HP3 := Lib.hid (HP2.out.fr FS.out.2 (by simp))
  have f0 := cell_of_heap (o := 0) FS.out.1 rfl
  have f1 := cell_of_heap (o := 1) FS.out.1 rfl
  clear HX0 HC2 HP2 R2
  have hsl := HSL.out.1
  rcases HSS.out with ⟨her, hspl⟩ | ⟨her, his, hps, hf0, hf1⟩
  case inr =>
    have e1 : (sp.er != 0) = true := by simpa using her
    have hz1 : sp.is.length = 0 := by rw [his]; rfl
    have hz2 : sp.ps.length = 0 := by rw [hps]; rfl
    generalize sp.is.length = n1 at *
    generalize sp.ps.length = n2 at *
    subst hz1
    subst hz2
    clear her his hps HSS HCL
    go_wp2_with fail
    go_ret
    exact ⟨rfl, R3.out⟩
  have HSPL := Lib.hid hspl
  have HCL2 := Lib.hid (HCL.out hspl)
  have hj := join_ok w3 ma mc sp.is HC3.out (by omega) (fun i hi => by have := HFW.out i hi; omega)
  rw [(spl_join hspl (by omega)).1, (spl_join hspl (by omega)).2] at hj
  have HJ := Lib.hid hj
  have e1 : (sp.er != 0) = false := by rw [her]; rfl
  have HLL := Lib.hid HSL.out.2
  clear her hspl hj HSS HCL HSL
  go_wp2_with fail
  refine HJ.out.mono ?_
  rintro e w4 ⟨cv, rfl, hcv, r4⟩
  obtain ⟨ca, cc, rfl⟩ := owns_shape hcv
  have R4 := Lib.hid (R3.out.trans r4)
  have HC4 := Lib.hid (HC3.out.fr r4)
  have HP4 := Lib.hid (HP3.out.fr r4 (by simp))
  have sb := samebytes_ok w4 _ _ bs bs (owns_reads hcv) (HB.out.reads.fr R4.out (by simp)) HK.out HK.out
  rw [show decide (bs = bs) = true from decide_eq_true rfl] at sb
  have SB := Lib.hid sb
  clear sb r4 hcv HJ R3 HC3 HP3 f0 f1
  go_wp2_with fail
  refine SB.out.mono ?_
  rintro e w5 ⟨rfl, rfl⟩
  have pk := HPK2.out w4 cut (bs.length + 1) hcut (by omega) (by omega)
  rw [show ((bs.length + 1 : Nat) : Int) = (bs.length : Int) + 1 from by omega] at pk
  have PK := Lib.hid pk
  clear pk HPK2
  go_wp2_with fail
  refine PK.out.mono ?_
  rintro e w5 ⟨⟨k, hkk, rfl⟩, rfl⟩
  have hkl : k ≤ bs.length := by omega
  have HCK := Lib.hid (HCL2.out k hkl)
  clear SB PK HCL2
  have hpsl : sp.ps.length ≤ 600 := by have := HLL.out; omega
  go_wp2_with fail
  go_loopw [11, 12] (fun x y wr => ∃ j : Nat, j ≤ sp.ps.length ∧ y = .int .i64 j ∧ x = .bool (decide (k = bs.length ∨ (k : Int) ∈ sp.ps.take j)) ∧ Hid (Fr no w4 wr)) (fun _ y _ => (sp.ps.length - intOf y).toNat)
  case atStart => exact ⟨0, by omega, rfl, by simp; by_cases h : k = bs.length <;> simp [h]; omega, Lib.hid (Fr.refl _ _)⟩
  case round =>
    obtain ⟨j, hj, rfl, rfl, hfr⟩ := hrel
    by_cases hjs : j < sp.ps.length
    · have hjs' : (j : Int) < sp.ps.length := by omega
      have hz0 : sp.ps[j]? = some sp.ps[j] := List.getElem?_eq_getElem hjs
      obtain ⟨pb, po, rfl, hpc⟩ := (HP4.out.fr hfr.out (by simp)).at1 (k := j) (u := .int .i64 sp.ps[j]) (by simp [ints, hz0])
      have HT := Lib.hid (take_mem_succ sp.ps j sp.ps[j] k hz0 (k = bs.length))
      have HT2 := Lib.hid (take_mem_true sp.ps j k (k = bs.length))
      generalize sp.ps[j] = z at *
      generalize decide (k = bs.length ∨ (k : Int) ∈ sp.ps.take j) = q at *
      clear hz0
      cases q
      · have HT3 := Lib.hid (HT.out rfl)
        clear HT HT2
        go_wp2_with fail
        go_roundw
        case rel => exact ⟨j + 1, by omega, by go_num, by rw [HT3.out], hfr⟩
        case measure => first | (simp [intOf]; done) | (simp [intOf]; omega)
      · have HT3 := Lib.hid (HT2.out rfl)
        clear HT HT2
        go_wp2_with fail
        go_roundw
        case rel => exact ⟨j + 1, by omega, by go_num, by rw [HT3.out], hfr⟩
        case measure => first | (simp [intOf]; done) | (simp [intOf]; omega)
    · obtain rfl : j = sp.ps.length := by omega
      rw [List.take_length, ← HCK.out.1]
      have HK2 := Lib.hid HCK.out.2
      have hkb : (k : Int) ≤ (bc : Int) := by omega
      have hkb2 : k ≤ bc := by omega
      have htl : (bs.take k).length = k := by rw [List.length_take]; omega
      have HBK : Hid (Bytes wr (.slice ba k bc) (bs.take k)) := Lib.hid (by
        refine ⟨?_, fun b hb => HK.out b (List.mem_of_mem_take hb), by omega, fun i hi => ?_⟩
        · rw [htl, u8s, List.map_take]
          exact reads_take (HB.out.reads.fr (R4.out.trans hfr.out) (by simp)) hkl
        · exact Nat.lt_of_lt_of_le (HB.out.old i (by cases ba <;> exact hi)) (R4.out.trans hfr.out).size)
      have HS2 := Lib.hid (split_c wr _ (bs.take k) HBK.out (by omega))
      have HSL2 := Lib.hid (splitR_few (bs.take k) ((bs.take k).length + 1) [] [] 0 (by intro i hi; cases hi))
      have HSN2 := Lib.hid (splitR_len (bs.take k) ((bs.take k).length + 1) [] [] 0 (Nat.le_refl _) rfl (Nat.zero_le _)).1
      generalize splitR (bs.take k) ((bs.take k).length + 1) [] [] 0 = s2 at *
      have hs2n := HSN2.out
      rw [htl] at hs2n
      have R6 := Lib.hid (R4.out.trans hfr.out)
      have HC6 := Lib.hid (HC4.out.fr hfr.out)
      clear htl hfr HCK HSN2
      go_wp2_with fail
      refine HS2.out.mono ?_
      rintro e w7 ⟨na, nc, qv, rfl, hs, hnc⟩
      have HC7 := Lib.hid hs.code
      have HC6b := Lib.hid (HC6.out.fr hs.fr)
      have R7 := Lib.hid (R6.out.trans hs.fr)
      obtain ⟨qa, qc, rfl⟩ := owns_shape hs.places
      clear hs HS2 HC6 HBK
      have HX0 := Lib.hid (heap_new w7 (.cells #[.int .i64 0, .int .i64 0] 42))
      have FS2 := fault_set w7 s2.er s2.fa
      go_upto_region 17 with (refine wpList_store_row rfl 42 (.tmp 15) (.tmp 97) rfl w7.heap.size #[.int .i64 s2.er, .int .i64 s2.fa] rfl rfl _ _ HX0.out (by rw [Try.infoFault]; rfl) rfl (by simp [Value.oneCell']) ?_; rw [act_put_none])
      generalize World.setRow _ w7.heap.size #[.int .i64 s2.er, .int .i64 s2.fa] = w8 at *
      have R8 := Lib.hid (R7.out.trans FS2.out.2)
      have HC8 := Lib.hid (HC7.out.fr FS2.out.2)
      have HC6c := Lib.hid (HC6b.out.fr FS2.out.2)
      have f0 := cell_of_heap (o := 0) FS2.out.1 rfl
      clear HX0 HC7 HC6b
      by_cases her2 : s2.er = 0
      · obtain ⟨hi1, hi2⟩ := HK2.out her2
        have e2 : (s2.er == 0) = true := by rw [her2]; rfl
        have hd : decide (s2.er = 0) = true := decide_eq_true her2
        have h3 : s2.is.length ≤ mc := by omega
        have h3' : (s2.is.length : Int) ≤ (mc : Int) := by omega
        have sc := samecode_ok w8 na ma nc mc s2.is (sp.is.take s2.is.length) HC8.out (HC6c.out.take _) (by omega) (fun i hi => by have := HSL2.out i hi; omega) (by rw [List.length_take]; omega)
        rw [← hi1, decide_eq_true rfl] at sc
        have SC := Lib.hid sc
        clear her2 hi1 sc
        rw [hd]
        go_wp2_with fail
        refine SC.out.mono ?_
        rintro e w9 ⟨rfl, r9⟩
        have R9 := Lib.hid (R8.out.trans r9)
        clear r9
        go_wp2_with fail
        go_ret
        exact ⟨rfl, R9.out⟩
      · have e2 : (s2.er == 0) = false := by simpa using her2
        have hd : decide (s2.er = 0) = false := decide_eq_false her2
        clear her2
        rw [hd]
        go_wp2_with fail
        go_ret
        exact ⟨rfl, R8.out⟩

theorem again_rd (w : World) (v : Value) {n : Nat} {d : Dt} (h : Rd Try.prog w n 26 [v] d) (ho : ∀ k, v.ownBlock = some k → k < w.heap.size) (cut : Int) (hcut : (Lit.int .i64 cut).wf = true) :
    Calls Try.prog 8 #[v, .int .i64 cut] w fun e w' => e = .returned (.bool true) ∧ Fr no w w' := by
  obtain ⟨bs, h1, h2, h3⟩ := bytes_of h
  exact again_ok w v bs cut hcut h1 h2 h3 ho

end Go.Proofs.Ytajfhgphbcmmhaa

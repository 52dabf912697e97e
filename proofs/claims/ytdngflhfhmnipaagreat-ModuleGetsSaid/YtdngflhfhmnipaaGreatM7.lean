/- slices.Grow, slices.Concat, slices.Clone of bytes (their spare room holds numbers); module.number. -/
import Derived.Test.YtdngflhfhmnipaaGreatM1
import Derived.Test.YtdngflhfhmnipaaGreatNu
import Derived.Lib.AppendZeros
set_option linter.unusedSimpArgs false
set_option linter.unusedVariables false
set_option linter.unusedSectionVars false
set_option linter.unnecessarySimpa false
namespace Go.Proofs.YtdngflhfhmnipaaGreat
open Go.RowKit

attribute [local go_sem] Program.isFuncB Program.isSliceB

variable {w w' w'' w0 : World}

theorem infoU8' : Tryz.prog.info? 5 = some { (Tryz.prog.info? 5).get! with zero := some (.int .u8 0), size := 1, bytes := 1 } := by kernel_rfl

set_option maxRecDepth 100000 in
set_option maxHeartbeats 1000000 in
theorem growb_nil (w : World) (n : Nat) (hn : n ≤ 1000000) : Calls Tryz.prog 48 #[.slice none 0 0, .int .i64 n] w fun e w' => ∃ v, e = .returned v ∧ w'.ownsRow w.heap.size 5 1 v 0 [] ∧ Nums .u8 w' v ∧ Fr no w w' := by
  by_cases h0 : n = 0
  · subst h0
    go_enter Tryz.func48, Tryz.ntmps48
    go_wp2_with fail
    go_ret
    exact ⟨_, rfl, World.ownsRow_nil _ _ _ _, Nums.nil _ _ _ _, Fr.refl _ _⟩
  · have hpos : (0 : Int) < n := by omega
    have hneg : ¬ (n : Int) < 0 := by omega
    have hap := Lib.run_append_nil_zeros (P := Tryz.prog) w 22 3 22 5 _ (.int .u8 0) .u8 .i64 Tryz.underlying22 Tryz.underlying3 infoU8' rfl n (by omega) (by decide) (by omega) (by show n * 1 ≤ _; omega)
    have hge := grownCap_ge w n 0 5
    have hcm := grownCap_le_maxLen w n 0 5 (by unfold maxLen; omega)
    have hcm' : grownCap w n 0 5 ≤ 9223372036854775807 := by unfold maxLen at hcm; omega
    have hfr : Fr no w (w.drew.alloc (.cells (Builtin.zeroCells (Value.int .u8 0).cells n ++ Builtin.zeroCells (Value.int .u8 0).cells (grownCap w n 0 5 - n)) 5)) := ((Fr.refl no w).drew).alloc _
    have hob := heap_new w.drew (.cells (Builtin.zeroCells (Value.int .u8 0).cells n ++ Builtin.zeroCells (Value.int .u8 0).cells (grownCap w n 0 5 - n)) 5)
    have hnu : Nums .u8 (w.drew.alloc (.cells (Builtin.zeroCells (Value.int .u8 0).cells n ++ Builtin.zeroCells (Value.int .u8 0).cells (grownCap w n 0 5 - n)) 5)) (.slice (some ⟨w.drew.heap.size, 0, none⟩) 0 (grownCap w n 0 5)) := Nums.made (fun x hx => by
      rw [Array.toList_append, List.mem_append] at hx
      rcases hx with hx | hx
      · exact ⟨0, zero_mem rfl _ x hx⟩
      · exact ⟨0, zero_mem rfl _ x hx⟩)
    have hsz : (Builtin.zeroCells (Value.int .u8 0).cells n ++ Builtin.zeroCells (Value.int .u8 0).cells (grownCap w n 0 5 - n)).size = grownCap w n 0 5 := by
      rw [Array.size_append, size_zeroCells, size_zeroCells]
      show n * 1 + (_ - n) * 1 = _
      omega
    generalize w.drew.alloc (.cells (Builtin.zeroCells (Value.int .u8 0).cells n ++ Builtin.zeroCells (Value.int .u8 0).cells (grownCap w n 0 5 - n)) 5) = w1 at *
    generalize Builtin.zeroCells (Value.int .u8 0).cells n ++ Builtin.zeroCells (Value.int .u8 0).cells (grownCap w n 0 5 - n) = cur at *
    generalize grownCap w n 0 5 = cap at *
    have OWN : Hid (w1.ownsRow w.heap.size 5 1 (.slice (some ⟨w.heap.size, 0, none⟩) 0 cap) 0 []) := Lib.hid ⟨rfl, .inr ⟨w.heap.size, cap, cur, rfl, Nat.le_refl _, hob, Nat.zero_le _, hcm, by omega, by simp⟩⟩
    have HFR := Lib.hid hfr
    have HAP := Lib.hid hap
    have HNU := Lib.hid hnu
    clear hob hfr hcm hsz hap h0 hnu
    go_enter Tryz.func48, Tryz.ntmps48
    go_wp2_with (at_builtin; refine Lib.wpList_append_run _ rfl _ _ 22 3 rfl _ _ rfl rfl _ _ HAP.out ?_)
    go_ret
    exact ⟨_, rfl, OWN.out, HNU.out, HFR.out⟩

theorem u8s_nu (l : List Nat) : ∀ u ∈ u8s l, ∃ q : Int, u = .int .u8 q := by
  intro u hu
  simp only [u8s, List.mem_map] at hu
  obtain ⟨x, _, rfl⟩ := hu
  exact ⟨_, rfl⟩

def sumLen (ps : List (Value × List Nat)) : Nat := (ps.map (fun p => p.2.length)).sum
def catB (ps : List (Value × List Nat)) : List Nat := ps.flatMap Prod.snd
theorem catB_len (ps : List (Value × List Nat)) : (catB ps).length = sumLen ps := by
  simp [catB, sumLen, List.length_flatMap]
theorem sumLen_take (ps : List (Value × List Nat)) (k : Nat) (hk : k < ps.length) : sumLen (ps.take (k + 1)) = sumLen (ps.take k) + ps[k].2.length := by
  rw [List.take_succ_eq_append_getElem hk]
  unfold sumLen
  rw [List.map_append, List.sum_append]
  simp only [List.map_cons, List.map_nil, List.sum_cons, List.sum_nil, Nat.add_zero]
theorem sumLen_le (ps : List (Value × List Nat)) (k : Nat) : sumLen (ps.take k) ≤ sumLen ps := by
  have : sumLen ps = sumLen (ps.take k) + sumLen (ps.drop k) := by
    rw [← catB_len, ← catB_len, ← catB_len, ← List.length_append]
    unfold catB
    rw [← List.flatMap_append, List.take_append_drop]
  omega
theorem catB_take (ps : List (Value × List Nat)) (k : Nat) (hk : k < ps.length) : catB (ps.take (k + 1)) = catB (ps.take k) ++ ps[k].2 := by
  rw [List.take_succ_eq_append_getElem hk]
  unfold catB
  rw [List.flatMap_append]
  simp only [List.flatMap_cons, List.flatMap_nil, List.append_nil]

set_option maxRecDepth 100000 in
set_option maxHeartbeats 4000000 in
/-- slices.Concat, bytes -/
theorem concatb_ok (w : World) (cb : Nat) (ps : List (Value × List Nat)) (hn : ps.length ≤ 100) (hc : w.heap[cb]? = some (.cells (ps.map Prod.fst).toArray 22 (0, 0))) (hr : ∀ p ∈ ps, Reads w p.1 1 p.2.length (u8s p.2)) (hl : sumLen ps ≤ 1000000) :
    Calls Tryz.prog 25 #[.slice (some ⟨cb, 0, none⟩) ps.length ps.length] w fun e w' => ∃ x, e = .returned x ∧ w'.ownsRow w.heap.size 5 1 x (catB ps).length (u8s (catB ps)) ∧ Nums .u8 w' x ∧ Fr no w w' := by
  have HC : Hid (∀ k (h : k < ps.length), w.cell? ⟨cb, k, none⟩ = some ps[k].1) := Lib.hid (fun k h => cell_of_heap hc (by simp [h]))
  have HR : Hid (∀ k (h : k < ps.length), Reads w ps[k].1 1 ps[k].2.length (u8s ps[k].2)) := Lib.hid (fun k h => hr _ (List.getElem_mem h))
  have HS := Lib.hid (sumLen_take ps)
  have HSL := Lib.hid (sumLen_le ps)
  have HT : Hid (sumLen (ps.take ps.length) = sumLen ps) := Lib.hid (by rw [List.take_length])
  have HL := Lib.hid (catB_len)
  clear hc hr
  go_enter Tryz.func25, Tryz.ntmps25
  go_wp2_with fail
  go_loopw [3, 11] (fun x z wr => ∃ k : Nat, k ≤ ps.length ∧ z = .int .i64 k ∧ x = .int .i64 (sumLen (ps.take k) : Nat) ∧ wr = w) (fun _ z _ => (ps.length - intOf z).toNat)
  case atStart => exact ⟨0, by omega, rfl, rfl, rfl⟩
  case round =>
    obtain ⟨k, hk, rfl, rfl, rfl⟩ := hrel
    by_cases hks : k < ps.length
    · have hks' : (k : Int) < ps.length := by omega
      have c0 := HC.out k hks
      have rr := HR.out k hks
      have h1 := HS.out k hks
      have h2 := HSL.out (k + 1)
      rw [h1] at h2
      have H1 := Lib.hid h1
      obtain ⟨va, vc, hv⟩ := rr.shape
      rw [hv] at c0
      clear rr h1
      generalize sumLen (ps.take k) = s0 at *
      generalize ps[k].2.length = n at *
      generalize ps[k].1 = pv at *
      clear hv
      have hlt : ¬ ((s0 : Int) + n) < 0 := by omega
      go_wp2_with fail
      go_roundw
      case rel => exact ⟨k + 1, by omega, by go_num, by rw [H1.out] <;> go_num, by trivial⟩
      case measure => first | (simp [intOf]; done) | (simp [intOf]; omega)
    · obtain rfl : k = ps.length := by omega
      rw [HT.out]
      obtain ⟨wz, hwz⟩ : ∃ x, x = wr := ⟨_, rfl⟩
      subst hwz
      go_wp2_with fail
      refine (growb_nil _ _ (by omega)).mono ?_
      rintro e w1 ⟨nv, rfl, ho, hnu, r1⟩
      have HO := Lib.hid ho
      have HN := Lib.hid hnu
      have R1 := Lib.hid r1
      clear ho r1 hnu
      go_wp2_with fail
      go_loopw [6, 27] (fun x z w2 => ∃ k : Nat, k ≤ ps.length ∧ z = .int .i64 k ∧ Hid (w2.ownsRow wz.heap.size 5 1 x (catB (ps.take k)).length (u8s (catB (ps.take k)))) ∧ Hid (Nums .u8 w2 x) ∧ Hid (Fr no wz w2)) (fun _ z _ => (ps.length - intOf z).toNat)
      case atStart => exact ⟨0, by omega, rfl, HO, HN, R1⟩
      case round =>
        obtain ⟨k, hk, rfl, hown, hnu, hfr⟩ := hrel
        obtain ⟨xa, xc, rfl⟩ := owns_shape hown.out
        by_cases hks : k < ps.length
        · have hks' : (k : Int) < ps.length := by omega
          have c0 := hfr.out.cell (HC.out k hks) (by simp)
          have HRR := Lib.hid ((HR.out k hks).fr hfr.out (by simp))
          have h2 := HSL.out (k + 1)
          rw [HS.out k hks] at h2
          rw [← HL.out (ps.take k)] at h2
          have HCT := Lib.hid (catB_take ps k hks)
          obtain ⟨va, vc, hv⟩ := HRR.out.shape
          rw [hv] at c0 HRR
          clear hv
          generalize catB (ps.take k) = b0 at *
          generalize ps[k].2 = bs at *
          go_wp2_with (at_builtin; (refine wpList_append_nu rfl _ _ 22 rfl wz.heap.size 5 0 1 Tryz.underlying22 Tryz.infoU8 _ _ _ rfl hown.out bs.length _ HRR.out (u8s_one bs) (by unfold maxLen; omega) (by omega) hfr.out.size hnu.out (u8s_nu bs) ?_); intro ga gc w6 ho hg hb hn6)
          have HO2 : Hid (w6.ownsRow wz.heap.size 5 1 (.slice ga (b0.length + bs.length) gc) (catB (ps.take (k + 1))).length (u8s (catB (ps.take (k + 1))))) := Lib.hid (by rw [HCT.out]; simpa [u8s] using ho)
          have R6 := Lib.hid (hfr.out.trans' ((Fr.refl (fun k => (Value.slice xa b0.length xc).ownBlock = some k) wr).grown hg (fun k hk => .inl hk)) (fun k hk _ => (hown.out.lt k hk).1))
          have HN6 := Lib.hid hn6
          clear ho hg hb c0 hn6
          go_roundw
          case rel => exact ⟨k + 1, by omega, by go_num, HO2, HN6, R6⟩
          case measure => first | (simp [intOf]; done) | (simp [intOf]; omega)
        · obtain rfl : k = ps.length := by omega
          have HO2 := hown.out
          rw [List.take_length] at HO2
          have HO3 := Lib.hid HO2
          clear HO2 hown
          rw [List.take_length]
          go_wp2_with fail
          go_ret
          exact ⟨_, rfl, HO3.out, hnu.out.len, hfr.out⟩

set_option maxHeartbeats 1000000 in
/-- slices.Clone, bytes -/
theorem cloneb_ok (w : World) (v : Value) (bs : List Nat) (hb : Reads w v 1 bs.length (u8s bs)) (hl : bs.length ≤ 1000000) :
    Calls Tryz.prog 87 #[v] w fun e w' => ∃ x, e = .returned x ∧ w'.ownsRow w.heap.size 5 1 x bs.length (u8s bs) ∧ Nums .u8 w' x ∧ Fr no w w' := by
  rcases hb with ⟨rfl, h0, hz⟩ | ⟨a, cap, rfl, h1, h2, h3, h4⟩
  · obtain rfl : bs = [] := List.length_eq_zero_iff.1 h0
    go_enter Tryz.func87, Tryz.ntmps87
    go_wp2_with fail
    go_ret
    exact ⟨_, rfl, World.ownsRow_nil _ _ _ _, Nums.nil _ _ _ _, Fr.refl _ _⟩
  · have r0 := (Fr.refl no w).alloc (.cells #[] 5)
    have HB := Lib.hid (Reads.fr (.inr ⟨a, cap, rfl, h1, h2, h3, h4⟩ : Reads w (.slice (some a) bs.length cap) 1 bs.length (u8s bs)) r0 (by simp))
    have R0 := Lib.hid r0
    have HN := Lib.hid (Nums.made (k := .u8) (w := w) (e := 5) (cs := #[]) (n := 0) (c := 0) (by intro x hx; simp at hx))
    have HW := Lib.hid (owns_new w 5 1)
    clear r0 h4 h3
    go_enter Tryz.func87, Tryz.ntmps87
    go_wp2_with (at_builtin; (refine wpList_append_nu rfl _ _ 22 rfl w.heap.size 5 0 1 Tryz.underlying22 Tryz.infoU8 _ 0 _ rfl HW.out bs.length _ HB.out (u8s_one bs) (by unfold maxLen; omega) (by omega) R0.out.size HN.out (u8s_nu bs) ?_); intro ga gc w6 ho hg hb hn6)
    have HO := Lib.hid ho
    have R6 := Lib.hid (R0.out.trans' ((Fr.refl (fun k => (Value.slice (some ⟨w.heap.size, 0, none⟩) 0 0).ownBlock = some k) _).grown hg (fun k hk => .inl hk)) (fun k hk _ => by have := (HW.out.lt k hk).1; omega))
    have HN6 := Lib.hid hn6
    clear ho hg hb hn6
    go_wp2_with fail
    go_ret
    exact ⟨_, rfl, by simpa using HO.out, by simpa using HN6.out, R6.out⟩

theorem number_mod (w : World) (n sz : Nat) (hn : n < 1000000) (hs : sz = 1 ∨ sz = 2) :
    Calls Tryz.prog 26 #[.int .i64 n, .int .i64 sz] w fun e w' => ∃ x, e = .returned x ∧ w'.ownsRow w.heap.size 5 1 x sz (u8s (le n sz)) ∧ Fr no w w' := by
  have HP := Lib.hid (wput_ok w n sz (by omega) (by omega))
  have e1 : IntKind.u64.wrap (n : Int) = n := by rw [IntKind.wrap_u64]; omega
  clear hs
  go_enter Tryz.func26, Tryz.ntmps26
  go_wp2_with fail
  refine HP.out.mono ?_
  rintro e w1 ⟨v, rfl, hv, r⟩
  obtain ⟨va, vc, rfl⟩ := owns_shape hv
  have HV := Lib.hid hv
  have R := Lib.hid r
  clear hv r
  go_wp2_with fail
  go_ret
  exact ⟨_, rfl, HV.out, R.out⟩

end Go.Proofs.YtdngflhfhmnipaaGreat

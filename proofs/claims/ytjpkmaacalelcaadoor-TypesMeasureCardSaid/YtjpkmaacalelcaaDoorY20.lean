/- slices.Grow at nil, slices.Concat of two (law24). -/
import Derived.Test.YtjpkmaacalelcaaDoorY19
import Derived.Lib.AppendZeros
set_option linter.unusedSimpArgs false
set_option linter.unusedVariables false
set_option linter.unusedSectionVars false
set_option linter.unnecessarySimpa false
set_option maxRecDepth 100000
namespace Go.Proofs.YtjpkmaacalelcaaDoor
open Go.RowKit Go.Ty Go.Deep

attribute [local go_sem] Program.isFuncB Program.isSliceB

variable {w w' w'' w0 : World}

theorem infoInt' : Tryd.prog.info? 3 = some { (Tryd.prog.info? 3).get! with zero := some (.int .i64 0), size := 1, bytes := 8 } := by kernel_rfl

set_option maxRecDepth 100000 in
set_option maxHeartbeats 1000000 in
theorem grow_nil (w : World) (n : Nat) (hn : n ≤ 1000000) : Calls Tryd.prog 69 #[.slice none 0 0, .int .i64 n] w fun e w' => ∃ v, e = .returned v ∧ w'.ownsRow w.heap.size 3 1 v 0 [] ∧ Fr no w w' := by
  by_cases h0 : n = 0
  · subst h0
    go_enter Tryd.func69, Tryd.ntmps69
    go_wp2_with fail
    go_ret
    exact ⟨_, rfl, World.ownsRow_nil _ _ _ _, Fr.refl _ _⟩
  · have hpos : (0 : Int) < n := by omega
    have hneg : ¬ (n : Int) < 0 := by omega
    have hap := Lib.run_append_nil_zeros (P := Tryd.prog) w 23 3 23 3 _ (.int .i64 0) .i64 .i64 Tryd.underlying23 Tryd.underlying3 infoInt' rfl n (by omega) (by decide) (by omega) (by show n * 8 ≤ _; omega)
    have hge := grownCap_ge w n 0 3
    have hcm := grownCap_le_maxLen w n 0 3 (by unfold maxLen; omega)
    have hcm' : grownCap w n 0 3 ≤ 9223372036854775807 := by unfold maxLen at hcm; omega
    have hfr : Fr no w (w.drew.alloc (.cells (Builtin.zeroCells (Value.int .i64 0).cells n ++ Builtin.zeroCells (Value.int .i64 0).cells (grownCap w n 0 3 - n)) 3)) := ((Fr.refl no w).drew).alloc _
    have hob := heap_new w.drew (.cells (Builtin.zeroCells (Value.int .i64 0).cells n ++ Builtin.zeroCells (Value.int .i64 0).cells (grownCap w n 0 3 - n)) 3)
    have hsz : (Builtin.zeroCells (Value.int .i64 0).cells n ++ Builtin.zeroCells (Value.int .i64 0).cells (grownCap w n 0 3 - n)).size = grownCap w n 0 3 := by
      rw [Array.size_append, size_zeroCells, size_zeroCells]
      show n * 1 + (_ - n) * 1 = _
      omega
    generalize w.drew.alloc (.cells (Builtin.zeroCells (Value.int .i64 0).cells n ++ Builtin.zeroCells (Value.int .i64 0).cells (grownCap w n 0 3 - n)) 3) = w1 at *
    generalize Builtin.zeroCells (Value.int .i64 0).cells n ++ Builtin.zeroCells (Value.int .i64 0).cells (grownCap w n 0 3 - n) = cur at *
    generalize grownCap w n 0 3 = cap at *
    have OWN : Hid (w1.ownsRow w.heap.size 3 1 (.slice (some ⟨w.heap.size, 0, none⟩) 0 cap) 0 []) := Lib.hid ⟨rfl, .inr ⟨w.heap.size, cap, cur, rfl, Nat.le_refl _, hob, Nat.zero_le _, hcm, by omega, by simp⟩⟩
    have HFR := Lib.hid hfr
    have HAP := Lib.hid hap
    clear hob hfr hcm hsz hap h0
    go_enter Tryd.func69, Tryd.ntmps69
    go_wp2_with (at_builtin; refine Lib.wpList_append_run _ rfl _ _ 23 3 rfl _ _ rfl rfl _ _ HAP.out ?_)
    go_ret
    exact ⟨_, rfl, OWN.out, HFR.out⟩

set_option maxHeartbeats 2000000 in
theorem concat2 (w : World) (cb : Nat) (u v : Value) (l m : List Int) (hc : w.heap[cb]? = some (.cells #[u, v] 23 (0, 0))) (hu : Reads w u 1 l.length (ints l)) (hv : Reads w v 1 m.length (ints m)) (hl : l.length ≤ 100000) (hm : m.length ≤ 100000) :
    Calls Tryd.prog 55 #[.slice (some ⟨cb, 0, none⟩) 2 2] w fun e w' => ∃ x, e = .returned x ∧ w'.ownsRow w.heap.size 3 1 x (l ++ m).length (ints (l ++ m)) ∧ Fr no w w' := by
  obtain ⟨ua, uc, rfl⟩ := hu.shape
  obtain ⟨va, vc, rfl⟩ := hv.shape
  have k0 : w.cell? ⟨cb, 0, none⟩ = some (.slice ua l.length uc) := cell_of_heap hc rfl
  have k1 : w.cell? ⟨cb, 1, none⟩ = some (.slice va m.length vc) := cell_of_heap hc rfl
  have HU := Lib.hid hu
  have HV := Lib.hid hv
  have K0 := Lib.hid k0
  have K1 := Lib.hid k1
  clear hc hu hv
  go_enter Tryd.func55, Tryd.ntmps55
  go_wp2_with fail
  go_loopw [3, 11] (fun x z wr => ((x = .int .i64 0 ∧ z = .int .i64 0) ∨ (x = .int .i64 l.length ∧ z = .int .i64 1) ∨ (x = .int .i64 (l.length + m.length : Nat) ∧ z = .int .i64 2)) ∧ wr = w) (fun _ z _ => (2 - intOf z).toNat)
  case atStart => exact ⟨.inl ⟨rfl, rfl⟩, rfl⟩
  case round =>
    obtain ⟨⟨rfl, rfl⟩ | ⟨rfl, rfl⟩ | ⟨rfl, rfl⟩, rfl⟩ := hrel
    · have hlt : ¬ (l.length : Int) < 0 := by omega
      go_wp2_with fail
      go_roundw
      case rel => exact ⟨.inr (.inl ⟨rfl, rfl⟩), by trivial⟩
      case measure => simp [intOf]
    · have hlt : ¬ ((l.length : Int) + m.length) < 0 := by omega
      go_wp2_with fail
      go_roundw
      case rel => exact ⟨.inr (.inr ⟨by go_num, rfl⟩), by trivial⟩
      case measure => simp [intOf]
    · clear k0 k1
      obtain ⟨wz, hwz⟩ : ∃ x, x = wr := ⟨_, rfl⟩
      subst hwz
      go_wp2_with fail
      refine (grow_nil _ _ (by omega)).mono ?_
      rintro e w1 ⟨nv, rfl, ho, r1⟩
      have HO := Lib.hid ho
      have R1 := Lib.hid r1
      clear ho r1
      go_wp2_with fail
      go_loopw [6, 27] (fun x z w2 => ∃ (k : Nat) (acc : List Int), z = .int .i64 k ∧ (k = 0 ∧ acc = [] ∨ k = 1 ∧ acc = l ∨ k = 2 ∧ acc = l ++ m) ∧ Hid (w2.ownsRow wz.heap.size 3 1 x acc.length (ints acc)) ∧ Hid (Fr no wz w2)) (fun _ z _ => (2 - intOf z).toNat)
      case atStart => exact ⟨0, [], rfl, .inl ⟨rfl, rfl⟩, HO, R1⟩
      case round =>
        obtain ⟨k, acc, rfl, hk, hown, hfr⟩ := hrel
        obtain ⟨xa, xc, rfl⟩ := owns_shape hown.out
        rcases hk with ⟨rfl, rfl⟩ | ⟨rfl, rfl⟩ | ⟨rfl, rfl⟩
        · have c0 := hfr.out.cell K0.out (by simp)
          have HS := Lib.hid (HU.out.fr hfr.out (by simp))
          go_wp2_with (at_builtin; (refine wpList_append_at rfl _ _ 23 rfl wz.heap.size 3 (.int .i64 0) 1 8 Tryd.underlying23 infoI3 rfl (by decide) _ 0 _ rfl hown.out l.length _ HS.out (ints1 l) (by unfold maxLen; omega) (by omega) hfr.out.size ?_); intro ga gc w6 ho hg hb)
          have HO2 : Hid (w6.ownsRow wz.heap.size 3 1 (.slice ga l.length gc) l.length (ints l)) := Lib.hid (by simpa [ints] using ho)
          have R6 := Lib.hid (hfr.out.trans' ((Fr.refl (fun k => (Value.slice xa 0 xc).ownBlock = some k) wr).grown hg (fun k hk => .inl hk)) (fun k hk _ => (hown.out.lt k hk).1))
          clear ho hg hb c0
          go_roundw
          case rel => exact ⟨1, l, rfl, .inr (.inl ⟨rfl, rfl⟩), HO2, R6⟩
          case measure => simp [intOf]
        · have c0 := hfr.out.cell K1.out (by simp)
          have HS := Lib.hid (HV.out.fr hfr.out (by simp))
          go_wp2_with (at_builtin; (refine wpList_append_at rfl _ _ 23 rfl wz.heap.size 3 (.int .i64 0) 1 8 Tryd.underlying23 infoI3 rfl (by decide) _ _ _ rfl hown.out m.length _ HS.out (ints1 m) (by unfold maxLen; omega) (by omega) hfr.out.size ?_); intro ga gc w6 ho hg hb)
          have HO2 : Hid (w6.ownsRow wz.heap.size 3 1 (.slice ga (acc.length + m.length) gc) (acc ++ m).length (ints (acc ++ m))) := Lib.hid (by simpa [ints] using ho)
          have R6 := Lib.hid (hfr.out.trans' ((Fr.refl (fun k => (Value.slice xa acc.length xc).ownBlock = some k) wr).grown hg (fun k hk => .inl hk)) (fun k hk _ => (hown.out.lt k hk).1))
          clear ho hg hb c0
          go_roundw
          case rel => exact ⟨2, acc ++ m, rfl, .inr (.inr ⟨rfl, rfl⟩), HO2, R6⟩
          case measure => simp [intOf]
        · go_wp2_with fail
          go_ret
          exact ⟨_, rfl, hown.out, hfr.out⟩

end Go.Proofs.YtjpkmaacalelcaaDoor

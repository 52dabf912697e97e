import Derived.Test.YtihnkijeefkefaaGreatQ14
set_option linter.unusedSimpArgs false
set_option linter.unusedVariables false
set_option linter.unusedSectionVars false
set_option linter.unnecessarySimpa false
set_option maxRecDepth 100000
/- The program's space: are all registers there? -/
namespace Go.Proofs.YtihnkijeefkefaaGreat
open Go.RowKit

attribute [local go_sem] Program.isFuncB Program.isSliceB

variable {w w' w'' w0 : World} {O R : Nat → Prop} {p : Nat} {s s' : Zp} {z : Pz}

theorem lacks_ok (w : World) (r : Int) (tb : Nat) (t : TypeId) (ht : w.heap[tb]? = some (.cells #[.pointer (some ⟨p, 0, none⟩)] t (0, 0))) (h : SpAt w O R p s z) :
    Calls Tryz.prog 62 #[.int .i64 r, .pointer (some ⟨tb, 0, none⟩)] w fun e w' => e = .returned (.bool (!s.rg r)) ∧ Fr no w w' := by
  have HH := Lib.hid (shas_ok w r h)
  have c0 : w.cell? ⟨tb, 0, none⟩ = some (.pointer (some ⟨p, 0, none⟩)) := cell_of_heap ht rfl
  clear h
  go_enter Tryz.func62, Tryz.ntmps62
  go_wp2_with fail
  refine HH.out.mono ?_
  rintro e w1 ⟨rfl, r1⟩
  have R1 := Lib.hid r1
  clear r1
  go_wp2_with fail
  go_ret
  exact ⟨rfl, R1.out⟩
theorem indexf_ok (w : World) (v : Value) (l : List Int) (tb : Nat) (t : TypeId) (hv : Reads w v 1 l.length (ints l)) (hl : l.length ≤ 1000000) (ht : w.heap[tb]? = some (.cells #[.pointer (some ⟨p, 0, none⟩)] t (0, 0))) (h : SpAt w O R p s z) :
    Calls Tryz.prog 128 #[v, .func (.func 62) #[] #[.pointer (some ⟨tb, 0, none⟩)]] w fun e w' => ∃ x : Int, e = .returned (.int .i64 x) ∧ decide (x ≥ 0) = l.any (fun r => !s.rg r) ∧ Fr no w w' := by
  obtain ⟨va, vc, rfl⟩ := hv.shape
  have HL := Lib.hid (fun w' (r : Fr no w w') (k : Int) => lacks_ok w' k tb t (r.heap ht (by simp)) (h.fr r))
  have HV := Lib.hid hv
  clear h ht hv
  go_enter Tryz.func128, Tryz.ntmps128
  go_wp2_with fail
  go_loopw [8] (fun y wr => ∃ j : Nat, j ≤ l.length ∧ y = .int .i64 j ∧ Hid ((l.take j).any (fun r => !s.rg r) = false) ∧ Hid (Fr no w wr)) (fun y _ => (l.length - intOf y).toNat)
  case atStart => exact ⟨0, by omega, by simp, Lib.hid (by simp), Lib.hid (Fr.refl _ _)⟩
  case round =>
    obtain ⟨j, hj, rfl, ha, hfr⟩ := hrel
    by_cases hjl : j < l.length
    · have hlt : (j : Int) < l.length := by omega
      obtain ⟨b, ob, rfl, hc⟩ := (HV.out.fr hfr.out (by simp)).at1 (k := j) (u := .int .i64 l[j]) (by simp [ints, hjl])
      have HN : Hid ((l.take (j + 1)).any (fun r => !s.rg r) = !s.rg l[j]) := Lib.hid (by rw [List.take_succ_eq_append_getElem hjl, List.any_append, ha.out]; simp)
      have HA : Hid (s.rg l[j] = false → l.any (fun r => !s.rg r) = true) := Lib.hid (fun h => by rw [List.any_eq_true]; exact ⟨l[j], List.getElem_mem hjl, by simp [h]⟩)
      have HC := Lib.hid (HL.out wr hfr.out l[j])
      have hnn : decide ((j : Int) ≥ 0) = true := decide_eq_true (by omega)
      generalize l[j] = r at *
      go_wp2_with fail
      refine HC.out.mono ?_
      rintro e w1 ⟨rfl, r1⟩
      have R1 := Lib.hid (hfr.out.trans r1)
      clear r1
      cases hr : s.rg r
      · have HT := Lib.hid (HA.out hr)
        have HNN := Lib.hid hnn
        clear hr hnn
        go_wp2_with fail
        go_ret
        exact ⟨_, rfl, by rw [HT.out]; exact HNN.out, R1.out⟩
      · have HT := HN.out
        rw [hr] at HT
        have HT2 := Lib.hid HT
        clear hr HT
        go_wp2_with fail
        go_roundw
        case rel => exact ⟨j + 1, by omega, by go_num, HT2, R1⟩
        case measure => first | (simp [intOf]; done) | (simp [intOf]; omega)
    · obtain rfl : j = l.length := by omega
      have HT := ha.out
      rw [List.take_length] at HT
      have HT2 := Lib.hid HT
      clear HT ha
      go_wp2_with fail
      go_ret
      exact ⟨_, rfl, by rw [HT2.out]; rfl, hfr.out⟩
theorem containsf_ok (w : World) (v : Value) (l : List Int) (tb : Nat) (t : TypeId) (hv : Reads w v 1 l.length (ints l)) (hl : l.length ≤ 1000000) (ht : w.heap[tb]? = some (.cells #[.pointer (some ⟨p, 0, none⟩)] t (0, 0))) (h : SpAt w O R p s z) :
    Calls Tryz.prog 65 #[v, .func (.func 62) #[] #[.pointer (some ⟨tb, 0, none⟩)]] w fun e w' => e = .returned (.bool (l.any (fun r => !s.rg r))) ∧ Fr no w w' := by
  have HI := Lib.hid (indexf_ok w v l tb t hv hl ht h)
  obtain ⟨va, vc, rfl⟩ := hv.shape
  clear h ht hv
  go_enter Tryz.func65, Tryz.ntmps65
  go_wp2_with fail
  refine HI.out.mono ?_
  rintro e w1 ⟨x, rfl, hx, r1⟩
  have HX := Lib.hid hx
  have R1 := Lib.hid r1
  clear r1 hx
  go_wp2_with fail
  go_ret
  exact ⟨by rw [← HX.out]; rfl, R1.out⟩

end Go.Proofs.YtihnkijeefkefaaGreat

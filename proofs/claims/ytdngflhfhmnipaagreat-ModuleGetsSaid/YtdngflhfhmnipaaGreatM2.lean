/- module.Check; shells; two functions the same. -/
import Derived.Test.YtdngflhfhmnipaaGreatM1
set_option linter.unusedSimpArgs false
set_option linter.unusedVariables false
set_option linter.unusedSectionVars false
set_option linter.unnecessarySimpa false
namespace Go.Proofs.YtdngflhfhmnipaaGreat
open Go.RowKit

attribute [local go_sem] Program.isFuncB Program.isSliceB

variable {w w' w'' w0 : World}

/-- a module's two slices -/
structure ModIn (w : World) (m : Mx) (da : Option Addr) (dc : Nat) (fa : Option Addr) : Prop where
  data : Reads w (.slice da m.d.length dc) 1 m.d.length (u8s m.d)
  fns : FnsIn w fa m.f
theorem ModIn.fr {m : Mx} {da fa : Option Addr} {dc : Nat} (h : ModIn w m da dc fa) (r : Fr no w w') : ModIn w' m da dc fa := ⟨h.data.fr r (by simp), h.fns.fr r⟩
structure Mx.Small (m : Mx) : Prop where
  data : m.d.length ≤ 1000
  fns : m.f.length ≤ 1000
  each : ∀ f ∈ m.f, f.Small
  lt : ∀ b ∈ m.d, b < 256

theorem modObj (w : World) (u v : Value) : (w.alloc (.cells #[u, v] 25)).heap[w.heap.size]? = some (.cells #[u, v] 25 (0, 0)) := heap_new _ _

set_option maxHeartbeats 4000000 in
theorem check_mod (w : World) (m : Mx) (da : Option Addr) (dc : Nat) (fa : Option Addr) (fc : Nat) (hm : ModIn w m da dc fa) (hs : m.Small) :
    Calls Tryz.prog 11 #[.agg #[.slice da m.d.length dc, .slice fa m.f.length fc]] w fun e w' => e = .returned (.int .i64 (modCk m)) ∧ Fr no w w' := by
  obtain ⟨ds, fs⟩ := m
  obtain ⟨hs1, hs2, hs3, -⟩ := hs
  dsimp only at hs1 hs2 hs3 ⊢
  have HF := Lib.hid hm.fns
  have HS := Lib.hid hs3
  have HI := Lib.hid (modObj w (.slice da ds.length dc) (.slice fa fs.length fc))
  have r0 := (Fr.refl no w).alloc (.cells #[.slice da ds.length dc, .slice fa fs.length fc] 25)
  have R0 := Lib.hid r0
  have HCK : Hid (modCk ⟨ds, fs⟩ = if 8192 < ds.length then 3 else if fs.length < 1 ∨ 64 < fs.length then 2 else fnsCk fs) := Lib.hid rfl
  generalize modCk ⟨ds, fs⟩ = ck at *
  clear r0 hm hs3
  go_enter Tryz.func11, Tryz.ntmps11
  obtain ⟨c0, c1⟩ := cells2 HI.out
  have h8' : ¬ (8192 : Int) < ds.length := by omega
  by_cases h1 : fs.length < 1
  · have h1' : (fs.length : Int) < 1 := by omega
    have HB : Hid (ck = 2) := Lib.hid (by rw [HCK.out, if_neg (by omega), if_pos (.inl h1)])
    go_wp2_with fail
    go_ret
    exact ⟨by rw [HB.out]; rfl, R0.out⟩
  have h1' : ¬ (fs.length : Int) < 1 := by omega
  by_cases h2 : 64 < fs.length
  · have h2' : (64 : Int) < fs.length := by omega
    have HB : Hid (ck = 2) := Lib.hid (by rw [HCK.out, if_neg (by omega), if_pos (.inr h2)])
    go_wp2_with fail
    go_ret
    exact ⟨by rw [HB.out]; rfl, R0.out⟩
  have h2' : ¬ (64 : Int) < fs.length := by omega
  have HN2 : Hid (ck = fnsCk fs) := Lib.hid (by rw [HCK.out, if_neg (by omega), if_neg (by omega)])
  clear HCK
  go_wp2_with fail
  go_loopw [25] (fun x wr => ∃ k : Nat, k ≤ fs.length ∧ x = .int .i64 k ∧ Hid (∀ j (_ : j < k) (h : j < fs.length), fnCk fs[j] = 0) ∧ Hid (Fr no w wr)) (fun x _ => (fs.length - intOf x).toNat)
  case atStart => exact ⟨0, by omega, rfl, Lib.hid (fun j h _ => by omega), R0⟩
  case round =>
    obtain ⟨k, hk, rfl, hpre, hfr⟩ := hrel
    by_cases hks : k < fs.length
    · have hks' : (k : Int) < fs.length := by omega
      obtain ⟨b, of, ca, cc, rfl, hi⟩ := HF.out.fr hfr.out k hks
      obtain ⟨d0, d1, d2, d3⟩ := hi.four
      have HPP := Lib.hid (fun w1 (h : Fr no wr w1) => fn_ok w1 fs[k] ca cc (hi.code.fr h) (HS.out _ (List.getElem_mem hks)))
      have HBAD : Hid (fnCk fs[k] ≠ 0 → fnsCk fs = fnCk fs[k]) := Lib.hid (fun h => find_bad fnCk fs k hks hpre.out h)
      have HPRE : Hid (fnCk fs[k] = 0 → ∀ j (_ : j < k + 1) (h : j < fs.length), fnCk fs[j] = 0) := Lib.hid (fun h0 j hj h => by
        by_cases he : j = k
        · subst he; exact h0
        · exact hpre.out j (by omega) h)
      generalize fnCk fs[k] = qk at *
      generalize fs[k] = fx at *
      clear hi
      obtain ⟨fp, fr, far, fcode⟩ := fx
      dsimp only at d0 d1 d2 d3 HPP
      have r5 := (Fr.refl no wr).alloc (.cells #[.int .i64 fp, .int .i64 fr, .int .i64 far, .slice ca fcode.length cc] 44)
      have R5 := Lib.hid (hfr.out.trans r5)
      have HP5 := Lib.hid (HPP.out _ r5)
      clear r5 HPP
      go_wp2_with fail
      refine HP5.out.mono ?_
      rintro e w6 ⟨rfl, r6⟩
      have R6 := Lib.hid (R5.out.trans r6)
      clear r6 d0 d1 d2 d3
      by_cases hq : qk = 0
      · have e2 : (qk != 0) = false := by simpa using hq
        have HP := Lib.hid (HPRE.out hq)
        clear hq
        go_wp2_with fail
        go_roundw
        case rel => exact ⟨k + 1, by omega, by go_num, HP, R6⟩
        case measure => first | (simp [intOf]; done) | (simp [intOf]; omega)
      · have e2 : (qk != 0) = true := by simpa using hq
        have HB := Lib.hid (HBAD.out hq)
        clear hq
        go_wp2_with fail
        go_ret
        exact ⟨by rw [HN2.out, HB.out] <;> rfl, R6.out⟩
    · obtain rfl : k = fs.length := by omega
      have HG : Hid (fnsCk fs = 0) := Lib.hid (find_good fnCk fs (fun j h => hpre.out j h h))
      go_wp2_with fail
      go_ret
      exact ⟨by rw [HN2.out, HG.out] <;> rfl, hfr.out⟩

end Go.Proofs.YtdngflhfhmnipaaGreat

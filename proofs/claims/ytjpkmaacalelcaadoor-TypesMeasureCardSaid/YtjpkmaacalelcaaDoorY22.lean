/- Whether two types are the same, and the document's; the document's Integer (law24). -/
import Derived.Test.YtjpkmaacalelcaaDoorY21
set_option linter.unusedSimpArgs false
set_option linter.unusedVariables false
set_option linter.unusedSectionVars false
set_option linter.unnecessarySimpa false
set_option maxRecDepth 100000
namespace Go.Proofs.YtjpkmaacalelcaaDoor
open Go.RowKit Go.Ty Go.Deep

attribute [local go_sem] Program.isFuncB Program.isSliceB

variable {w w' w'' w0 : World}

theorem TIn.nil {mc : Nat} {ms : List Int} (h : TIn w none mc ms) : ms = [] := by
  rcases h with ⟨_, h1, _⟩ | ⟨a, cap, e, _⟩
  · exact List.length_eq_zero_iff.1 h1
  · simp at e
theorem TIn.at {ma : Option Addr} {mc : Nat} {ms : List Int} (h : TIn w ma mc ms) (h0 : 0 < ms.length) : ∃ b o, ma = some ⟨b, o, none⟩ ∧ ∀ j, j < ms.length → w.cell? ⟨b, o + j, none⟩ = some (.int .i64 (ms.getD j 0)) := by
  obtain ⟨b, o, rfl, -⟩ := h.at1 (k := 0) (u := .int .i64 ms[0]) (by simp [ints, h0])
  refine ⟨b, o, rfl, fun j hj => ?_⟩
  obtain ⟨b', o', e0, e1⟩ := h.at1 (k := j) (u := .int .i64 ms[j]) (by simp [ints, hj])
  cases e0
  rw [List.getD_eq_getElem?_getD, List.getElem?_eq_getElem hj]
  exact e1
theorem equal_ok (w : World) (l m : List Int) (ma mb : Option Addr) (mc md : Nat) (ha : TIn w ma mc l) (hb : TIn w mb md m) (hl : l.length ≤ 100000) (hm : m.length ≤ 100000) :
    Calls Tryd.prog 56 #[.slice ma l.length mc, .slice mb m.length md] w fun e w' => e = .returned (.bool (decide (l = m))) ∧ ∃ q, w' = w.drewN q := by
  by_cases hlen : l.length = m.length
  · by_cases h0 : l.length = 0
    · have hl0 : l = [] := List.length_eq_zero_iff.1 h0
      have hm0 : m = [] := List.length_eq_zero_iff.1 (by omega)
      subst hl0 hm0
      refine (Tryd.slices_Equal_int_empty ma mb mc 0 md w (by omega)).mono ?_
      rintro e w' ⟨rfl, rfl⟩
      exact ⟨rfl, 0, rfl⟩
    · obtain ⟨b1, o1, rfl, c1⟩ := ha.at (by omega)
      obtain ⟨b2, o2, rfl, c2⟩ := hb.at (by omega)
      refine (Tryd.slices_Equal_int b1 o1 l.length mc b2 o2 m.length md l m w (Nat.le_refl _) (Nat.le_refl _) (by omega) (by omega) c1 c2).mono ?_
      rintro e w' ⟨rfl, hq⟩
      refine ⟨?_, hq⟩
      rw [List.take_length, List.take_length]
      congr 2
      exact Bool.eq_iff_iff.2 (by rw [beq_iff_eq, decide_eq_true_eq])
  · refine (Tryd.slices_Equal_int_lens ma mb l.length mc m.length md w hlen).mono ?_
    rintro e w' ⟨rfl, rfl⟩
    refine ⟨?_, 0, rfl⟩
    rw [decide_eq_false (fun e => hlen (by rw [e]))]

set_option maxHeartbeats 1000000 in
theorem tsame_ok (w : World) (b s c t : Int) (l m : List Int) (ma mb : Option Addr) (mc md : Nat) (ha : TIn w ma mc l) (hb : TIn w mb md m) (hl : l.length ≤ 100000) (hm : m.length ≤ 100000) :
    Calls Tryd.prog 33 #[.agg #[.int .i64 b, .int .i64 s, .slice ma l.length mc], .agg #[.int .i64 c, .int .i64 t, .slice mb m.length md]] w fun e w' => e = .returned (.bool (decide ((⟨b, s, l⟩ : Ty) = ⟨c, t, m⟩))) ∧ Fr no w w' := by
  have r1 := ((Fr.refl no w).alloc (.cells #[.int .i64 b, .int .i64 s, .slice ma l.length mc] 25)).alloc (.cells #[.int .i64 c, .int .i64 t, .slice mb m.length md] 25)
  have R := Lib.hid r1
  have HS := Lib.hid (equal_ok _ l m ma mb mc md (ha.fr r1) (hb.fr r1) hl hm)
  have HR : Hid (decide ((⟨b, s, l⟩ : Ty) = ⟨c, t, m⟩) = (decide (b = c) && (decide (s = t) && decide (l = m)))) := Lib.hid (by simp)
  generalize decide ((⟨b, s, l⟩ : Ty) = ⟨c, t, m⟩) = res at *
  generalize decide (l = m) = q at *
  clear ha hb r1
  by_cases h1 : b = c
  case neg =>
    have e1 : (b == c) = false := by simpa using h1
    have HV : Hid (res = false) := Lib.hid (by rw [HR.out, decide_eq_false h1]; rfl)
    clear h1
    go_enter Tryd.func33, Tryd.ntmps33
    go_wp2_with fail
    go_ret
    exact ⟨by rw [HV.out]; rfl, R.out⟩
  have e1 : (b == c) = true := by simpa using h1
  by_cases h2 : s = t
  case neg =>
    have e2 : (s == t) = false := by simpa using h2
    have HV : Hid (res = false) := Lib.hid (by rw [HR.out, decide_eq_false h2]; simp)
    clear h1 h2
    go_enter Tryd.func33, Tryd.ntmps33
    go_wp2_with fail
    go_ret
    exact ⟨by rw [HV.out]; rfl, R.out⟩
  have e2 : (s == t) = true := by simpa using h2
  have HV : Hid (res = q) := Lib.hid (by rw [HR.out, decide_eq_true h1, decide_eq_true h2]; rfl)
  clear h1 h2
  go_enter Tryd.func33, Tryd.ntmps33
  go_wp2_with fail
  refine HS.out.mono ?_
  rintro e w2 ⟨rfl, q2, rfl⟩
  go_wp2_with fail
  go_ret
  exact ⟨by rw [HV.out]; rfl, R.out.drewN _⟩

end Go.Proofs.YtjpkmaacalelcaaDoor

/- Whether two types are the same, and the document's; the document's Integer (law24). -/
import Derived.Test.YtjpkmaacalelcaaY21
set_option linter.unusedSimpArgs false
set_option linter.unusedVariables false
set_option linter.unusedSectionVars false
set_option linter.unnecessarySimpa false
namespace Go.Proofs.Ytjpkmaacalelcaa
open Go.RowKit Go.Ty Go.Deep

attribute [local go_sem] Program.isFuncB Program.isSliceB

variable {w w' w'' w0 : World}

theorem TIn.nil {mc : Nat} {ms : List Int} (h : TIn w none mc ms) : ms = [] := by
  rcases h with ⟨_, h1, _⟩ | ⟨a, cap, e, _⟩
  · exact List.length_eq_zero_iff.1 h1
  · simp at e
theorem TIn.at {ma : Option Addr} {mc : Nat} {ms : List Int} (h : TIn w ma mc ms) (h0 : 0 < ms.length) : ∃ b o, ma = some ⟨b, o, none⟩ ∧ ∀ j, j < ms.length → w.cell? ⟨b, o + j, none⟩ = some (.int .i64 (ms.getD j 0)) := by
  obtain ⟨b, o, rfl, -⟩ := h.at1 (k := 0) (u := .int .i64 ms[0]) (by simp [ints, h0])
  refine ⟨b, o, rfl, fun j hj => ?_⟩
  obtain ⟨b', o', e0, e1⟩ := h.at1 (k := j) (u := .int .i64 ms[j]) (by simp [ints, hj])
  cases e0
  rw [List.getD_eq_getElem?_getD, List.getElem?_eq_getElem hj]
  exact e1
theorem equal_ok (w : World) (l m : List Int) (ma mb : Option Addr) (mc md : Nat) (ha : TIn w ma mc l) (hb : TIn w mb md m) (hl : l.length ≤ 100000) (hm : m.length ≤ 100000) :
    Calls Try.prog 36 #[.slice ma l.length mc, .slice mb m.length md] w fun e w' => e = .returned (.bool (decide (l = m))) ∧ ∃ q, w' = w.drewN q := by
  by_cases hlen : l.length = m.length
  · by_cases h0 : l.length = 0
    · have hl0 : l = [] := List.length_eq_zero_iff.1 h0
      have hm0 : m = [] := List.length_eq_zero_iff.1 (by omega)
      subst hl0 hm0
      refine (Try.slices_Equal_int_empty ma mb mc 0 md w (by omega)).mono ?_
      rintro e w' ⟨rfl, rfl⟩
      exact ⟨rfl, 0, rfl⟩
    · obtain ⟨b1, o1, rfl, c1⟩ := ha.at (by omega)
      obtain ⟨b2, o2, rfl, c2⟩ := hb.at (by omega)
      refine (Try.slices_Equal_int b1 o1 l.length mc b2 o2 m.length md l m w (Nat.le_refl _) (Nat.le_refl _) (by omega) (by omega) c1 c2).mono ?_
      rintro e w' ⟨rfl, hq⟩
      refine ⟨?_, hq⟩
      rw [List.take_length, List.take_length]
      congr 2
      exact Bool.eq_iff_iff.2 (by rw [beq_iff_eq, decide_eq_true_eq])
  · refine (Try.slices_Equal_int_lens ma mb l.length mc m.length md w hlen).mono ?_
    rintro e w' ⟨rfl, rfl⟩
    refine ⟨?_, 0, rfl⟩
    rw [decide_eq_false (fun e => hlen (by rw [e]))]

set_option maxHeartbeats 1000000 in
theorem tsame_ok (w : World) (b s c t : Int) (l m : List Int) (ma mb : Option Addr) (mc md : Nat) (ha : TIn w ma mc l) (hb : TIn w mb md m) (hl : l.length ≤ 100000) (hm : m.length ≤ 100000) :
    Calls Try.prog 17 #[.agg #[.int .i64 b, .int .i64 s, .slice ma l.length mc], .agg #[.int .i64 c, .int .i64 t, .slice mb m.length md]] w fun e w' => e = .returned (.bool (decide ((⟨b, s, l⟩ : Ty) = ⟨c, t, m⟩))) ∧ Fr no w w' := by
  have r1 := ((Fr.refl no w).alloc (.cells #[.int .i64 b, .int .i64 s, .slice ma l.length mc] 30)).alloc (.cells #[.int .i64 c, .int .i64 t, .slice mb m.length md] 30)
  have R := Lib.hid r1
  have HS := Lib.hid (equal_ok _ l m ma mb mc md (ha.fr r1) (hb.fr r1) hl hm)
  have HR : Hid (decide ((⟨b, s, l⟩ : Ty) = ⟨c, t, m⟩) = (decide (b = c) && (decide (s = t) && decide (l = m)))) := Lib.hid (by simp)
  generalize decide ((⟨b, s, l⟩ : Ty) = ⟨c, t, m⟩) = res at *
  generalize decide (l = m) = q at *
  clear ha hb r1
  by_cases h1 : b = c
  case neg =>
    have e1 : (b == c) = false := by simpa using h1
    have HV : Hid (res = false) := Lib.hid (by rw [HR.out, decide_eq_false h1]; rfl)
    clear h1
    go_enter Try.func17, Try.ntmps17
    go_wp2_with fail
    go_ret
    exact ⟨by rw [HV.out]; rfl, R.out⟩
  have e1 : (b == c) = true := by simpa using h1
  by_cases h2 : s = t
  case neg =>
    have e2 : (s == t) = false := by simpa using h2
    have HV : Hid (res = false) := Lib.hid (by rw [HR.out, decide_eq_false h2]; simp)
    clear h1 h2
    go_enter Try.func17, Try.ntmps17
    go_wp2_with fail
    go_ret
    exact ⟨by rw [HV.out]; rfl, R.out⟩
  have e2 : (s == t) = true := by simpa using h2
  have HV : Hid (res = q) := Lib.hid (by rw [HR.out, decide_eq_true h1, decide_eq_true h2]; rfl)
  clear h1 h2
  go_enter Try.func17, Try.ntmps17
  go_wp2_with fail
  refine HS.out.mono ?_
  rintro e w2 ⟨rfl, q2, rfl⟩
  go_wp2_with fail
  go_ret
  exact ⟨by rw [HV.out]; rfl, R.out.drewN _⟩

set_option maxHeartbeats 2000000 in
theorem rsame_ok (w : World) (b s c t : Int) (l m : List Int) (ma mb : Option Addr) (mc md : Nat) (ha : TIn w ma mc l) (hb : TIn w mb md m) (hl : l.length ≤ 100000) :
    Calls Try.prog 18 #[.agg #[.int .i64 b, .int .i64 s, .slice ma l.length mc], .agg #[.int .i64 c, .int .i64 t, .slice mb m.length md]] w fun e w' => e = .returned (.bool (decide ((⟨b, s, l⟩ : Ty) = ⟨c, t, m⟩))) ∧ Fr no w w' := by
  have HR : Hid (decide ((⟨b, s, l⟩ : Ty) = ⟨c, t, m⟩) = (decide (b = c) && (decide (s = t) && decide (l = m)))) := Lib.hid (by simp)
  generalize decide ((⟨b, s, l⟩ : Ty) = ⟨c, t, m⟩) = res at *
  have h10 := heap_new2 w (.cells #[.int .i64 b, .int .i64 s, .slice ma l.length mc] 30) (.cells #[.int .i64 c, .int .i64 t, .slice mb m.length md] 30)
  have h20 := heap_new2' w (.cells #[.int .i64 b, .int .i64 s, .slice ma l.length mc] 30) (.cells #[.int .i64 c, .int .i64 t, .slice mb m.length md] 30)
  have r1 := ((Fr.refl no w).alloc (.cells #[.int .i64 b, .int .i64 s, .slice ma l.length mc] 30)).alloc (.cells #[.int .i64 c, .int .i64 t, .slice mb m.length md] 30)
  have R := Lib.hid r1
  have HA := Lib.hid (ha.fr r1)
  have HB := Lib.hid (hb.fr r1)
  have H1 := Lib.hid h10
  have H2 := Lib.hid h20
  clear ha hb r1 h10 h20
  by_cases h1 : b = c
  case neg =>
    have e1 : (b != c) = true := by simpa using h1
    have HV : Hid (res = false) := Lib.hid (by rw [HR.out, decide_eq_false h1]; rfl)
    clear h1
    go_enter Try.func18, Try.ntmps18
    go_wp2_with fail
    go_ret
    exact ⟨by rw [HV.out]; rfl, R.out⟩
  have e1 : (b != c) = false := by simpa using h1
  by_cases h2 : s = t
  case neg =>
    have e2 : (s != t) = true := by simpa using h2
    have HV : Hid (res = false) := Lib.hid (by rw [HR.out, decide_eq_false h2]; simp)
    clear h1 h2
    go_enter Try.func18, Try.ntmps18
    go_wp2_with fail
    go_ret
    exact ⟨by rw [HV.out]; rfl, R.out⟩
  have e2 : (s != t) = false := by simpa using h2
  have HV : Hid (res = decide (l = m)) := Lib.hid (by rw [HR.out, decide_eq_true h1, decide_eq_true h2]; rfl)
  clear h1 h2 HR
  by_cases hlen : l.length = m.length
  case neg =>
    have e3 : ((l.length : Int) != (m.length : Int)) = true := by simp; omega
    have HW : Hid (res = false) := Lib.hid (by rw [HV.out, decide_eq_false (fun e => hlen (by rw [e]))])
    clear hlen
    go_enter Try.func18, Try.ntmps18
    go_wp2_with fail
    go_ret
    exact ⟨by rw [HW.out]; rfl, R.out⟩
  have HL2 := Lib.hid hlen
  have e3 : ((l.length : Int) != (l.length : Int)) = false := by simp
  rw [← hlen] at HA H1 H2 R HB ⊢
  clear hlen
  go_enter Try.func18, Try.ntmps18
  go_upto_region 4 with fail
  generalize (w.alloc (.cells #[.int .i64 b, .int .i64 s, .slice ma l.length mc] 30)).alloc (.cells #[.int .i64 c, .int .i64 t, .slice mb l.length md] 30) = w2 at *
  clear e1 e2 e3
  generalize w.heap.size + 1 = TC at *
  generalize w.heap.size = TA at *
  go_loopw [5] (fun x wr => ∃ i q : Nat, x = .int .i64 i ∧ i ≤ l.length ∧ Hid (l.take i = m.take i) ∧ wr = w2.drewN q) (fun x _ => (l.length - intOf x).toNat)
  case atStart => exact ⟨0, 0, rfl, by omega, Lib.hid (by simp), rfl⟩
  case round =>
    obtain ⟨i, q, rfl, hi, hpre, hwr⟩ := hrel
    have HWR := Lib.hid hwr
    have r : Fr no w2 wr := by rw [hwr]; exact (Fr.refl no w2).drewN q
    have g1 := (ce3 (r.heap H1.out (by simp))).2.2
    have g2 := (ce3 (r.heap H2.out (by simp))).2.2
    by_cases hlt : i < l.length
    · have hlt2 : i < m.length := by rw [← HL2.out]; exact hlt
      obtain ⟨b', o', rfl, c1⟩ := reads_int HA.out hlt
      obtain ⟨b2, o2, rfl, c2⟩ := reads_int HB.out hlt2
      have c1' := r.cell c1 (by simp)
      have c2' := r.cell c2 (by simp)
      clear hwr
      have hlt' : (i : Int) < l.length := by omega
      by_cases hne : l[i] = m[i]
      · have hpre2 : Hid (l.take (i + 1) = m.take (i + 1)) := by
          refine Lib.hid ?_
          rw [List.take_succ_eq_append_getElem hlt, List.take_succ_eq_append_getElem hlt2, hpre.out, hne]
        have hc : (l[i] == m[i]) = true := by simp [hne]
        clear hne hpre c1 c2 r
        generalize l[i] = p at c1' hc
        generalize m[i] = p2 at c2' hc
        obtain rfl : p = p2 := by simpa using hc
        clear hc
        go_wp2_with fail
        go_quiet (fail)
        go_wp2_with fail
        go_roundw
        case rel => exact ⟨i + 1, q + nq, by go_num, by omega, hpre2, by rw [HWR.out]; simp [World.drewN, Nat.add_assoc]⟩
        case measure => first | (simp [intOf]; done) | (simp [intOf]; omega)
      · have hno : Hid (l ≠ m) := Lib.hid (by rintro rfl; exact hne rfl)
        have hc : (l[i] != m[i]) = true := by simpa using hne
        clear hne hpre c1 c2 r
        generalize l[i] = p at c1' hc
        generalize m[i] = p2 at c2' hc
        go_wp2_with fail
        go_quiet (fail)
        go_wp2_with fail
        go_ret
        refine ⟨?_, R.out.trans (by rw [HWR.out]; exact ((Fr.refl no w2).drewN _).drewN _)⟩
        rw [HV.out, decide_eq_false hno.out]; rfl
    · obtain rfl : i = l.length := by omega
      have heq : Hid (l = m) := Lib.hid (by have := hpre.out; rwa [List.take_length, HL2.out, List.take_length] at this)
      have HF := Lib.hid (R.out.trans r)
      clear hpre hwr r hlt
      go_wp2_with fail
      go_ret
      refine ⟨?_, HF.out⟩
      rw [HV.out, decide_eq_true heq.out]; rfl

theorem rinteger_ok (w : World) (b s : Int) (ma : Option Addr) (n mc : Nat) : Calls Try.prog 20 #[.agg #[.int .i64 b, .int .i64 s, .slice ma n mc]] w fun e w' => e = .returned (.bool (isInt b && n == 0)) ∧ Fr no w w' := by
  have R := Lib.hid ((Fr.refl no w).alloc (.cells #[.int .i64 b, .int .i64 s, .slice ma n mc] 30))
  have HI := Lib.hid (fun w => bytes_ok w b)
  have hz := bytesN_zero b
  generalize isInt b = q at *
  generalize bytesN b = z at *
  cases q
  · obtain rfl : z = 0 := hz.2 rfl
    clear hz
    go_enter Try.func20, Try.ntmps20
    go_wp2_with fail
    refine (HI.out _).mono ?_
    rintro e w1 ⟨rfl, rfl⟩
    go_wp2_with fail
    go_ret
    exact ⟨rfl, R.out⟩
  · have hp : (0 : Int) < z := by have : z ≠ 0 := fun e => by simpa using hz.1 e
                                  omega
    clear hz
    by_cases hn : n = 0
    · have en : ((n : Int) == 0) = true := by rw [beq_iff_eq]; omega
      have HR : Hid ((n == 0) = true) := Lib.hid (by simp [hn])
      rw [HR.out]
      clear hn
      go_enter Try.func20, Try.ntmps20
      go_wp2_with fail
      refine (HI.out _).mono ?_
      rintro e w1 ⟨rfl, rfl⟩
      go_wp2_with fail
      go_ret
      exact ⟨rfl, R.out⟩
    · have en : ((n : Int) == 0) = false := by rw [beq_eq_false_iff_ne]; omega
      have HR : Hid ((n == 0) = false) := Lib.hid (by simp [hn])
      rw [HR.out]
      clear hn
      go_enter Try.func20, Try.ntmps20
      go_wp2_with fail
      refine (HI.out _).mono ?_
      rintro e w1 ⟨rfl, rfl⟩
      go_wp2_with fail
      go_ret
      exact ⟨rfl, R.out⟩

end Go.Proofs.Ytjpkmaacalelcaa

import Derived.Test.YtihnkijeefkefaaGreatLC
import Derived.Test.YtihnkijeefkefaaGreatLA
import Derived.Laws.Rows
import Derived.Laws.Tables
set_option linter.unusedSimpArgs false
set_option linter.unusedVariables false
set_option linter.unusedSectionVars false
set_option linter.unnecessarySimpa false
set_option maxRecDepth 100000
namespace Go.Proofs.YtihnkijeefkefaaGreat
open Go.RowKit

attribute [local go_sem] Program.isFuncB Program.isSliceB

variable {w w' w'' w0 : World}

theorem number_ok (w : World) (c N area : Int) : Calls Tryz.prog 199 #[.int .u8 c, .int .i64 N, .int .i64 area] w fun e w' => e = .returned (.bool (numOk c N area)) ∧ w = w' := by
  by_cases h107 : c = 107
  · subst h107
    by_cases q1 : N < 1
    · have HQ : Hid (numOk 107 N area = false) := Lib.hid (by simp [numOk]; omega)
      go_enter Tryz.func199, Tryz.ntmps199
      go_wp2_with fail
      go_ret
      exact ⟨by rw [HQ.out]; rfl, rfl⟩
    by_cases q2 : ¬ N ≤ 6
    · have HQ : Hid (numOk 107 N area = false) := Lib.hid (by simp [numOk]; omega)
      go_enter Tryz.func199, Tryz.ntmps199
      go_wp2_with fail
      go_ret
      exact ⟨by rw [HQ.out]; rfl, rfl⟩
    · have HQ : Hid (numOk 107 N area = true) := Lib.hid (by simp [numOk]; omega)
      go_enter Tryz.func199, Tryz.ntmps199
      go_wp2_with fail
      go_ret
      exact ⟨by rw [HQ.out]; rfl, rfl⟩
  by_cases h109 : c = 109
  · subst h109
    by_cases q1 : N < 1
    · have HQ : Hid (numOk 109 N area = false) := Lib.hid (by simp [numOk]; omega)
      go_enter Tryz.func199, Tryz.ntmps199
      go_wp2_with fail
      go_ret
      exact ⟨by rw [HQ.out]; rfl, rfl⟩
    by_cases q2 : ¬ N ≤ 7
    · have HQ : Hid (numOk 109 N area = false) := Lib.hid (by simp [numOk]; omega)
      go_enter Tryz.func199, Tryz.ntmps199
      go_wp2_with fail
      go_ret
      exact ⟨by rw [HQ.out]; rfl, rfl⟩
    · have HQ : Hid (numOk 109 N area = true) := Lib.hid (by simp [numOk]; omega)
      go_enter Tryz.func199, Tryz.ntmps199
      go_wp2_with fail
      go_ret
      exact ⟨by rw [HQ.out]; rfl, rfl⟩
  by_cases h102 : c = 102
  · subst h102
    by_cases q1 : N < 0
    · have HQ : Hid (numOk 102 N area = false) := Lib.hid (by simp [numOk]; omega)
      go_enter Tryz.func199, Tryz.ntmps199
      go_wp2_with fail
      go_ret
      exact ⟨by rw [HQ.out]; rfl, rfl⟩
    by_cases q2 : ¬ N ≤ area
    · have HQ : Hid (numOk 102 N area = false) := Lib.hid (by simp [numOk]; omega)
      go_enter Tryz.func199, Tryz.ntmps199
      go_wp2_with fail
      go_ret
      exact ⟨by rw [HQ.out]; rfl, rfl⟩
    · have HQ : Hid (numOk 102 N area = true) := Lib.hid (by simp [numOk]; omega)
      go_enter Tryz.func199, Tryz.ntmps199
      go_wp2_with fail
      go_ret
      exact ⟨by rw [HQ.out]; rfl, rfl⟩
  by_cases h100 : c = 100
  · subst h100
    by_cases q1 : N < 0
    · have HQ : Hid (numOk 100 N area = false) := Lib.hid (by simp [numOk]; omega)
      go_enter Tryz.func199, Tryz.ntmps199
      go_wp2_with fail
      go_ret
      exact ⟨by rw [HQ.out]; rfl, rfl⟩
    by_cases q2 : ¬ N ≤ 8192
    · have HQ : Hid (numOk 100 N area = false) := Lib.hid (by simp [numOk]; omega)
      go_enter Tryz.func199, Tryz.ntmps199
      go_wp2_with fail
      go_ret
      exact ⟨by rw [HQ.out]; rfl, rfl⟩
    · have HQ : Hid (numOk 100 N area = true) := Lib.hid (by simp [numOk]; omega)
      go_enter Tryz.func199, Tryz.ntmps199
      go_wp2_with fail
      go_ret
      exact ⟨by rw [HQ.out]; rfl, rfl⟩
  by_cases h116 : c = 116
  · subst h116
    by_cases q1 : N < 0
    · have HQ : Hid (numOk 116 N area = false) := Lib.hid (by simp [numOk]; omega)
      go_enter Tryz.func199, Tryz.ntmps199
      go_wp2_with fail
      go_ret
      exact ⟨by rw [HQ.out]; rfl, rfl⟩
    by_cases q2 : ¬ N ≤ 4095
    · have HQ : Hid (numOk 116 N area = false) := Lib.hid (by simp [numOk]; omega)
      have q3 : ¬ N < 4096 := by omega
      go_enter Tryz.func199, Tryz.ntmps199
      go_wp2_with fail
      go_ret
      exact ⟨by rw [HQ.out]; rfl, rfl⟩
    · have HQ : Hid (numOk 116 N area = true) := Lib.hid (by simp [numOk]; omega)
      have q3 : N < 4096 := by omega
      go_enter Tryz.func199, Tryz.ntmps199
      go_wp2_with fail
      go_ret
      exact ⟨by rw [HQ.out]; rfl, rfl⟩
  by_cases h99 : c = 99
  · subst h99
    by_cases q1 : N < 0
    · have HQ : Hid (numOk 99 N area = false) := Lib.hid (by simp [numOk]; omega)
      go_enter Tryz.func199, Tryz.ntmps199
      go_wp2_with fail
      go_ret
      exact ⟨by rw [HQ.out]; rfl, rfl⟩
    by_cases q2 : ¬ N ≤ 63
    · have HQ : Hid (numOk 99 N area = false) := Lib.hid (by simp [numOk]; omega)
      have q3 : ¬ N < 64 := by omega
      go_enter Tryz.func199, Tryz.ntmps199
      go_wp2_with fail
      go_ret
      exact ⟨by rw [HQ.out]; rfl, rfl⟩
    · have HQ : Hid (numOk 99 N area = true) := Lib.hid (by simp [numOk]; omega)
      have q3 : N < 64 := by omega
      go_enter Tryz.func199, Tryz.ntmps199
      go_wp2_with fail
      go_ret
      exact ⟨by rw [HQ.out]; rfl, rfl⟩
  by_cases h122 : c = 122
  · subst h122
    by_cases z1 : N = 1
    · subst z1
      have HQ : Hid (numOk 122 1 area = true) := Lib.hid rfl
      go_enter Tryz.func199, Tryz.ntmps199
      go_wp2_with fail
      go_ret
      exact ⟨by rw [HQ.out]; rfl, rfl⟩
    by_cases z2 : N = 2
    · subst z2
      have HQ : Hid (numOk 122 2 area = true) := Lib.hid rfl
      go_enter Tryz.func199, Tryz.ntmps199
      go_wp2_with fail
      go_ret
      exact ⟨by rw [HQ.out]; rfl, rfl⟩
    by_cases z4 : N = 4
    · subst z4
      have HQ : Hid (numOk 122 4 area = true) := Lib.hid rfl
      go_enter Tryz.func199, Tryz.ntmps199
      go_wp2_with fail
      go_ret
      exact ⟨by rw [HQ.out]; rfl, rfl⟩
    by_cases z8 : N = 8
    · subst z8
      have HQ : Hid (numOk 122 8 area = true) := Lib.hid rfl
      go_enter Tryz.func199, Tryz.ntmps199
      go_wp2_with fail
      go_ret
      exact ⟨by rw [HQ.out]; rfl, rfl⟩
    have HQ : Hid (numOk 122 N area = false) := Lib.hid (by simp [numOk]; omega)
    have y1 : (N == 1) = false := by rw [beq_eq_false_iff_ne]; exact z1
    have y2 : (N == 2) = false := by rw [beq_eq_false_iff_ne]; exact z2
    have y4 : (N == 4) = false := by rw [beq_eq_false_iff_ne]; exact z4
    have y8 : (N == 8) = false := by rw [beq_eq_false_iff_ne]; exact z8
    clear z1 z2 z4 z8
    go_enter Tryz.func199, Tryz.ntmps199
    go_wp2_with fail
    go_ret
    exact ⟨by rw [HQ.out]; rfl, rfl⟩
  have HQ : Hid (numOk c N area = true) := Lib.hid (by simp [numOk, h107, h109, h122, h102, h100, h116, h99])
  have e107 : (c == 107) = false := by rw [beq_eq_false_iff_ne]; exact h107
  have e109 : (c == 109) = false := by rw [beq_eq_false_iff_ne]; exact h109
  have e122 : (c == 122) = false := by rw [beq_eq_false_iff_ne]; exact h122
  have e102 : (c == 102) = false := by rw [beq_eq_false_iff_ne]; exact h102
  have e100 : (c == 100) = false := by rw [beq_eq_false_iff_ne]; exact h100
  have e116 : (c == 116) = false := by rw [beq_eq_false_iff_ne]; exact h116
  have e99 : (c == 99) = false := by rw [beq_eq_false_iff_ne]; exact h99
  clear h107 h109 h122 h102 h100 h116 h99
  go_enter Tryz.func199, Tryz.ntmps199
  go_wp2_with fail
  go_ret
  exact ⟨by rw [HQ.out]; rfl, rfl⟩

end Go.Proofs.YtihnkijeefkefaaGreat

namespace Go.Proofs.YtihnkijeefkefaaGreat
open Go.RowKit

attribute [local go_sem] Program.isFuncB Program.isSliceB

variable {w w' w'' w0 : World}

set_option maxHeartbeats 1000000 in
theorem refsame_ok (w : World) (o A B C N o' A' B' C' N' : Int) (u v : Value) (l m : List Int) (hu : Reads w u 1 l.length (ints l)) (hv : Reads w v 1 m.length (ints m)) (hl : l.length ≤ 9223372036854775807) (hm : m.length ≤ 9223372036854775807) :
    Calls Tryz.prog 179 #[insV o A B C N u, insV o' A' B' C' N' v] w fun e w' => e = .returned (.bool (decide (o = o' ∧ A = A' ∧ B = B' ∧ C = C' ∧ N = N' ∧ l = m))) ∧ Fr no w w' := by
  unfold insV
  have r : Fr no w ((w.alloc (.cells #[.int .i64 o, .int .i64 A, .int .i64 B, .int .i64 C, .int .i64 N, u] 112)).alloc (.cells #[.int .i64 o', .int .i64 A', .int .i64 B', .int .i64 C', .int .i64 N', v] 112)) := ((Fr.refl no w).alloc _).alloc _
  have HU := Lib.hid (hu.fr r (by simp))
  have HV := Lib.hid (hv.fr r (by simp))
  have R := Lib.hid r
  obtain ⟨ua, uc, rfl⟩ := hu.shape
  obtain ⟨va, vc, rfl⟩ := hv.shape
  clear hu hv r
  by_cases h1 : o = o'
  case neg =>
    have hd : Hid (decide (o = o' ∧ A = A' ∧ B = B' ∧ C = C' ∧ N = N' ∧ l = m) = false) := Lib.hid (decide_eq_false (fun h => h1 h.1))
    have e1 : (o != o') = true := by simpa using h1
    rw [hd.out]
    clear h1
    go_enter Tryz.func179, Tryz.ntmps179
    go_wp2_with fail
    go_ret
    exact ⟨rfl, R.out⟩
  subst h1
  by_cases h1 : A = A'
  case neg =>
    have hd : Hid (decide (o = o ∧ A = A' ∧ B = B' ∧ C = C' ∧ N = N' ∧ l = m) = false) := Lib.hid (decide_eq_false (fun h => h1 h.2.1))
    have e1 : (A != A') = true := by simpa using h1
    rw [hd.out]
    clear h1
    go_enter Tryz.func179, Tryz.ntmps179
    go_wp2_with fail
    go_ret
    exact ⟨rfl, R.out⟩
  subst h1
  by_cases h1 : B = B'
  case neg =>
    have hd : Hid (decide (o = o ∧ A = A ∧ B = B' ∧ C = C' ∧ N = N' ∧ l = m) = false) := Lib.hid (decide_eq_false (fun h => h1 h.2.2.1))
    have e1 : (B != B') = true := by simpa using h1
    rw [hd.out]
    clear h1
    go_enter Tryz.func179, Tryz.ntmps179
    go_wp2_with fail
    go_ret
    exact ⟨rfl, R.out⟩
  subst h1
  by_cases h1 : C = C'
  case neg =>
    have hd : Hid (decide (o = o ∧ A = A ∧ B = B ∧ C = C' ∧ N = N' ∧ l = m) = false) := Lib.hid (decide_eq_false (fun h => h1 h.2.2.2.1))
    have e1 : (C != C') = true := by simpa using h1
    rw [hd.out]
    clear h1
    go_enter Tryz.func179, Tryz.ntmps179
    go_wp2_with fail
    go_ret
    exact ⟨rfl, R.out⟩
  subst h1
  by_cases h1 : N = N'
  case neg =>
    have hd : Hid (decide (o = o ∧ A = A ∧ B = B ∧ C = C ∧ N = N' ∧ l = m) = false) := Lib.hid (decide_eq_false (fun h => h1 h.2.2.2.2.1))
    have e1 : (N != N') = true := by simpa using h1
    rw [hd.out]
    clear h1
    go_enter Tryz.func179, Tryz.ntmps179
    go_wp2_with fail
    go_ret
    exact ⟨rfl, R.out⟩
  subst h1
  by_cases hlen : l.length = m.length
  case neg =>
    have hd : Hid (decide (o = o ∧ A = A ∧ B = B ∧ C = C ∧ N = N ∧ l = m) = false) := Lib.hid (decide_eq_false (fun h => hlen (by rw [h.2.2.2.2.2])))
    have e1 : ((l.length : Int) != m.length) = true := by simp; omega
    rw [hd.out]
    clear hlen
    go_enter Tryz.func179, Tryz.ntmps179
    go_wp2_with fail
    go_ret
    exact ⟨rfl, R.out⟩
  have hd : Hid (decide (o = o ∧ A = A ∧ B = B ∧ C = C ∧ N = N ∧ l = m) = decide (l = m)) := Lib.hid (by simp)
  rw [hd.out]
  clear hd
  have HOA := Lib.hid (((Fr.refl no (w.alloc (.cells #[.int .i64 o, .int .i64 A, .int .i64 B, .int .i64 C, .int .i64 N, .slice ua l.length uc] 112))).alloc (.cells #[.int .i64 o, .int .i64 A, .int .i64 B, .int .i64 C, .int .i64 N, .slice va m.length vc] 112)).heap (heap_new w (.cells #[.int .i64 o, .int .i64 A, .int .i64 B, .int .i64 C, .int .i64 N, .slice ua l.length uc] 112)) (by simp))
  have HOB := Lib.hid (heap_new2' w (.cells #[.int .i64 o, .int .i64 A, .int .i64 B, .int .i64 C, .int .i64 N, .slice ua l.length uc] 112) (.cells #[.int .i64 o, .int .i64 A, .int .i64 B, .int .i64 C, .int .i64 N, .slice va m.length vc] 112))
  have HL := Lib.hid hlen
  have hlen' : (m.length : Int) = l.length := by omega
  clear hlen
  generalize hmm : m.length = mm at *
  obtain rfl : mm = l.length := by omega
  have HL2 := Lib.hid hmm
  clear hmm hlen'
  go_enter Tryz.func179, Tryz.ntmps179
  go_wp2_with fail
  go_loopw [5] (fun x wr => ∃ i : Nat, x = .int .i64 i ∧ i ≤ l.length ∧ Hid (l.take i = m.take i) ∧ Hid (Fr no w wr) ∧ Hid (wr.heap[w.heap.size]? = some (.cells #[.int .i64 o, .int .i64 A, .int .i64 B, .int .i64 C, .int .i64 N, .slice ua l.length uc] 112 (0, 0))) ∧
    Hid (wr.heap[w.heap.size + 1]? = some (.cells #[.int .i64 o, .int .i64 A, .int .i64 B, .int .i64 C, .int .i64 N, .slice va l.length vc] 112 (0, 0))) ∧ Hid (Reads wr (.slice ua l.length uc) 1 l.length (ints l)) ∧ Hid (Reads wr (.slice va l.length vc) 1 l.length (ints m))) (fun x _ => (l.length - intOf x).toNat)
  case atStart => exact ⟨0, rfl, by omega, Lib.hid (by simp), R, HOA, HOB, HU, HV⟩
  case round =>
    obtain ⟨i, rfl, hi, hpre, hfr, hoa, hob, hu, hv⟩ := hrel
    have d5 : wr.cell? ⟨w.heap.size, 5, none⟩ = some (.slice ua l.length uc) := cell_of_heap hoa.out rfl
    have e5 : wr.cell? ⟨w.heap.size + 1, 5, none⟩ = some (.slice va l.length vc) := cell_of_heap hob.out rfl
    by_cases hlt : i < l.length
    · have hlt2 : i < m.length := by rw [HL2.out]; exact hlt
      obtain ⟨b, o1, rfl, c1⟩ := reads_int hu.out hlt
      obtain ⟨b', o1', rfl, c2⟩ := reads_int (HL2.out ▸ hv.out : Reads wr (.slice va m.length vc) 1 m.length (ints m)) hlt2
      have hlt' : (i : Int) < l.length := by omega
      by_cases hne : l[i] = m[i]
      · have hpre2 : Hid (l.take (i + 1) = m.take (i + 1)) := by
          refine Lib.hid ?_
          rw [List.take_succ_eq_append_getElem hlt, List.take_succ_eq_append_getElem hlt2, hpre.out, hne]
        have hc : (l[i] == m[i]) = true := by simp [hne]
        clear hne hpre
        generalize l[i] = p at c1 hc
        generalize m[i] = p2 at c2 hc
        obtain rfl : p = p2 := by simpa using hc
        clear hc
        go_wp2_with fail
        go_quiet (fail)
        go_wp2_with fail
        go_roundw
        case rel => exact ⟨i + 1, by go_num, by omega, hpre2, Lib.hid (hfr.out.drewN _), hoa, hob, hu, hv⟩
        case measure => first | (simp [intOf]; done) | (simp [intOf]; omega)
      · have hno : Hid (l ≠ m) := Lib.hid (by rintro rfl; exact hne rfl)
        have hc : (l[i] != m[i]) = true := by simpa using hne
        clear hne hpre
        generalize l[i] = p at c1 hc
        generalize m[i] = p2 at c2 hc
        go_wp2_with fail
        go_quiet (fail)
        go_wp2_with fail
        go_ret
        refine ⟨?_, hfr.out.drewN _⟩
        rw [decide_eq_false hno.out]; rfl
    · obtain rfl : i = l.length := by omega
      have heq : Hid (l = m) := Lib.hid (by have := hpre.out; rwa [List.take_length, ← HL2.out, List.take_length] at this)
      clear hpre
      go_wp2_with fail
      go_ret
      refine ⟨?_, hfr.out⟩
      rw [decide_eq_true heq.out]; rfl

end Go.Proofs.YtihnkijeefkefaaGreat

namespace Go.Proofs.YtihnkijeefkefaaGreat
open Go.RowKit

attribute [local go_sem] Program.isFuncB Program.isSliceB

variable {w w' w'' w0 : World}

/-- the registers of a shape's letters among some (the document's way) -/
def stepR (regs : List Int) (t : List UInt8) (st : List Int × Nat) (c : UInt8) : List Int × Nat :=
  if c = 119 ∨ c = 114 then (if 0 < hasN t [c] then st.1 ++ [regs.getD st.2 0] else st.1, st.2 + 1) else st
def regSt (regs : List Int) (t s : List UInt8) : List Int × Nat := s.foldl (stepR regs t) ([], 0)
def regsOf (regs : List Int) (t s : List UInt8) : List Int := (regSt regs t s).1
theorem regSt_snoc (regs : List Int) (t s : List UInt8) (c : UInt8) : regSt regs t (s ++ [c]) = stepR regs t (regSt regs t s) c := by simp [regSt]
theorem stepR_len (regs : List Int) (t : List UInt8) (st : List Int × Nat) (c : UInt8) : (stepR regs t st c).1.length ≤ st.1.length + 1 ∧ (stepR regs t st c).2 ≤ st.2 + 1 := by
  unfold stepR
  split
  · split <;> simp
  · simp
theorem regSt_len (regs : List Int) (t : List UInt8) : ∀ (n : Nat) (s : List UInt8), s.length = n → (regSt regs t s).1.length ≤ n ∧ (regSt regs t s).2 ≤ n
  | 0, s, h => by rw [List.length_eq_zero_iff.1 h]; simp [regSt]
  | n + 1, s, h => by
    have hne : s ≠ [] := by rintro rfl; simp at h
    rw [← List.dropLast_concat_getLast hne, regSt_snoc]
    have ih := regSt_len regs t n s.dropLast (by simp [h])
    have := stepR_len regs t (regSt regs t s.dropLast) (s.getLast hne)
    omega
/-- the two ways tell the same -/
theorem regs_fields (A B C : Int) (s : List UInt8) : regSt [A, B, C] [119, 114] s = ((fieldsOf [A, B, C] s).1, (fieldsOf [A, B, C] s).1.length) ∧
    regSt [A, B, C] [114] s = ((fieldsOf [A, B, C] s).2.1, (fieldsOf [A, B, C] s).1.length) := by
  have key : ∀ (n : Nat) (s : List UInt8), s.length = n → regSt [A, B, C] [119, 114] s = ((fieldsOf [A, B, C] s).1, (fieldsOf [A, B, C] s).1.length) ∧
      regSt [A, B, C] [114] s = ((fieldsOf [A, B, C] s).2.1, (fieldsOf [A, B, C] s).1.length) := by
    intro n
    induction n with
    | zero => intro s h; rw [List.length_eq_zero_iff.1 h]; exact ⟨rfl, rfl⟩
    | succ n ih =>
      intro s h
      have hne : s ≠ [] := by rintro rfl; simp at h
      rw [← List.dropLast_concat_getLast hne, regSt_snoc, regSt_snoc, fieldsOf_snoc]
      obtain ⟨h1, h2⟩ := ih s.dropLast (by simp [h])
      rw [h1, h2]
      generalize s.getLast hne = c
      unfold stepR stepF
      by_cases h119 : c = 119
      · subst h119
        simp [hasN]
      · by_cases h114 : c = 114
        · subst h114
          simp [hasN]
        · simp [h119, h114]
  exact key _ s rfl

theorem extract_one (s : ByteArray) (k : Nat) (h : k < s.size) : (s.extract k (k + 1)).data.toList = [s[k]'h] := by
  rw [ByteArray.data_extract, Array.toList_extract]
  apply List.ext_getElem
  · simp; omega
  · intro i h1 h2
    have : i = 0 := by simp at h2; omega
    subst this
    simp
    rfl

set_option maxHeartbeats 4000000 in
theorem refregs_ok (w : World) (o A B C N : Int) (args : Value) (t : ByteArray) (ht : t.size ≤ 1000) :
    Calls Tryz.prog 197 #[insV o A B C N args, .string t] w fun e w' => ∃ v, e = .returned v ∧ Fr no w w' ∧
      w'.ownsRow w.heap.size 3 1 v (regsOf [A, B, C] t.data.toList (sh o)).length (ints (regsOf [A, B, C] t.data.toList (sh o))) := by
  have hok := shape_ok o
  have HSH := Lib.hid (fun w => refshape_all w o)
  unfold sh
  generalize shapeI o = s at *
  have HOK := Lib.hid hok
  have hsz := hok.size
  clear hok
  unfold insV
  have HO := Lib.hid (insObj w o A B C N args)
  have HT := Lib.hid ht
  go_enter Tryz.func197, Tryz.ntmps197
  go_wp2_with fail
  refine (HSH.out _).mono ?_
  rintro e w3 ⟨rfl, rfl⟩
  clear HO
  have HW : Hid (Fr no w (w.alloc (.cells #[.int .i64 o, .int .i64 A, .int .i64 B, .int .i64 C, .int .i64 N, args] 112))) := Lib.hid ((Fr.refl no w).alloc _)
  go_wp2_with fail
  have HW2 : Hid (Fr no w ((w.alloc (.cells #[.int .i64 o, .int .i64 A, .int .i64 B, .int .i64 C, .int .i64 N, args] 112)).alloc (.cells #[.int .i64 A, .int .i64 B, .int .i64 C] 3))) := Lib.hid (HW.out.alloc _)
  have HL : Hid (((w.alloc (.cells #[.int .i64 o, .int .i64 A, .int .i64 B, .int .i64 C, .int .i64 N, args] 112)).alloc (.cells #[.int .i64 A, .int .i64 B, .int .i64 C] 3)).heap[w.heap.size + 1]? = some (.cells #[.int .i64 A, .int .i64 B, .int .i64 C] 3 (0, 0))) := Lib.hid (heap_new2' w _ _)
  have HZ : Hid (((w.alloc (.cells #[.int .i64 o, .int .i64 A, .int .i64 B, .int .i64 C, .int .i64 N, args] 112)).alloc (.cells #[.int .i64 A, .int .i64 B, .int .i64 C] 3)).heap.size = w.heap.size + 2) := Lib.hid (by simp)
  generalize ((w.alloc (.cells #[.int .i64 o, .int .i64 A, .int .i64 B, .int .i64 C, .int .i64 N, args] 112)).alloc (.cells #[.int .i64 A, .int .i64 B, .int .i64 C] 3)) = W at *
  clear HW
  go_loopw [7, 8, 9] (fun x y z wr => ∃ k : Nat, z = .int .i64 k ∧ y = .int .i64 ((regSt [A, B, C] t.data.toList (s.data.toList.take k)).2 : Nat) ∧ k ≤ s.size ∧
    Hid (wr.ownsRow W.heap.size 3 1 x (regSt [A, B, C] t.data.toList (s.data.toList.take k)).1.length (ints (regSt [A, B, C] t.data.toList (s.data.toList.take k)).1)) ∧ Hid (Fr no W wr)) (fun _ _ z _ => (s.size - intOf z).toNat)
  case atStart => exact ⟨0, rfl, rfl, by omega, Lib.hid (World.ownsRow_nil _ _ _ _), Lib.hid (Fr.refl _ _)⟩
  case round =>
    obtain ⟨k, rfl, rfl, hk, hown, hfr⟩ := hrel
    obtain ⟨xa, xc, rfl⟩ := owns_shape hown.out
    have hlen := regSt_len [A, B, C] t.data.toList k (s.data.toList.take k) (blen_take s k hk)
    by_cases hks : k < s.size
    · have hks' : (k : Int) < s.size := by omega
      have hsnoc : regSt [A, B, C] t.data.toList (s.data.toList.take (k + 1)) = stepR [A, B, C] t.data.toList (regSt [A, B, C] t.data.toList (s.data.toList.take k)) (s[k]'hks) := by
        rw [btake_succ s k hks, regSt_snoc]
      generalize hst : regSt [A, B, C] t.data.toList (s.data.toList.take k) = st at *
      obtain ⟨la, at'⟩ := st
      dsimp only at hlen
      have HSN := Lib.hid hsnoc
      have ck : wr.cell? ⟨w.heap.size + 1, at', none⟩ = some (.int .i64 ([A, B, C].getD at' 0)) := by
        refine hfr.out.cell (cell_of_heap HL.out ?_) (by simp)
        obtain h | h | h : at' = 0 ∨ at' = 1 ∨ at' = 2 := by omega
        all_goals (rw [h]; rfl)
      have CK := Lib.hid ck
      have hl3 : at' < 3 := by omega
      have hl3' : (at' : Int) < 3 := by omega
      have hb2 : la.length ≤ 3 := by omega
      generalize hn : [A, B, C].getD at' 0 = n at *
      have HN := Lib.hid hn
      have hx := extract_one s k hks
      have HX := Lib.hid hx
      have HCI : Hid (∀ d : UInt8, ((s[k]'hks).toNat : Int) = d.toNat → s[k]'hks = d) := Lib.hid (fun d e => UInt8.toNat_inj.1 (by omega))
      clear hsnoc hst hn hx ck hlen
      by_cases hreg : s[k]'hks = 119 ∨ s[k]'hks = 114
      · have HH := Lib.hid (fun w => has_ok w t (s.extract k (k + 1)) HT.out (by rw [← blen, HX.out]; simp))
        have HH2 := Lib.hid hreg
        have hcc : Hid (hasN t.data.toList (s.extract k (k + 1)).data.toList = hasN t.data.toList [s[k]'hks]) := Lib.hid (by rw [HX.out])
        generalize hasN t.data.toList (s.extract k (k + 1)).data.toList = hn at *
        by_cases hpos : 0 < hn
        · have hpos' : (0 : Int) < hn := by omega
          have HSN2 : Hid (regSt [A, B, C] t.data.toList (s.data.toList.take (k + 1)) = (la ++ [n], at' + 1)) := Lib.hid (by
            rw [HSN.out]; unfold stepR; rw [if_pos HH2.out, if_pos (by rw [← hcc.out]; exact hpos)]; simp only [HN.out])
          have hcase : (((s[k]'hks).toNat : Int) != 119) = false ∨ ((((s[k]'hks).toNat : Int) != 119) = true ∧ (((s[k]'hks).toNat : Int) != 114) = false) := by
            rcases hreg with h | h
            · left; rw [h]; rfl
            · right; rw [h]; exact ⟨rfl, rfl⟩
          clear hreg
          obtain h1 | ⟨h1, h2⟩ := hcase
          all_goals
            go_wp2_with fail
            refine (HH.out _).mono ?_
            rintro e w4 ⟨rfl, q, rfl⟩
            have OD := Lib.hid (((owns_fr hown.out ((Fr.refl no wr).drewN q) (by simp)).alloc (.cells #[.int .i64 n] 3)))
            have R5 := Lib.hid ((hfr.out.drewN q).alloc (.cells #[.int .i64 n] 3))
            have ck := ((Fr.refl no wr).drewN q).cell CK.out (by simp)
            go_wp2_with (at_builtin; (refine wpList_append_at rfl (.tmp 44) _ 26 rfl W.heap.size 3 (.int .i64 0) 1 8 Tryz.underlying26 Tryz.infoInt rfl (by decide) _ la.length _ rfl OD.out 1 [.int .i64 n] (reads_one _ _ _) int_one (by unfold maxLen; omega) (by omega) (by have := R5.out.size; exact this) ?_); intro ga gc w6 ho hg hb)
            have HO6 : Hid (w6.ownsRow W.heap.size 3 1 (.slice ga (la.length + 1) gc) (la ++ [n]).length (ints (la ++ [n]))) := Lib.hid (by simpa [ints] using ho)
            have R6 := Lib.hid (R5.out.trans' ((Fr.refl (fun k => (Value.slice xa la.length xc).ownBlock = some k) _).grown hg (fun k hk => .inl hk)) (fun k hk _ => (hown.out.lt k hk).1))
            clear ho hg hb ck
            go_roundw
            case rel => exact ⟨k + 1, by go_num, by rw [HSN2.out]; go_num, by omega, by rw [HSN2.out]; exact HO6, R6⟩
            case measure => first | (simp [intOf]; done) | (simp [intOf]; omega)
        · have hpos' : ¬ (0 : Int) < hn := by omega
          have HSN2 : Hid (regSt [A, B, C] t.data.toList (s.data.toList.take (k + 1)) = (la, at' + 1)) := Lib.hid (by
            rw [HSN.out]; unfold stepR; rw [if_pos HH2.out, if_neg (by rw [← hcc.out]; exact hpos)])
          have hcase : (((s[k]'hks).toNat : Int) != 119) = false ∨ ((((s[k]'hks).toNat : Int) != 119) = true ∧ (((s[k]'hks).toNat : Int) != 114) = false) := by
            rcases hreg with h | h
            · left; rw [h]; rfl
            · right; rw [h]; exact ⟨rfl, rfl⟩
          clear hreg
          obtain h1 | ⟨h1, h2⟩ := hcase
          all_goals
            go_wp2_with fail
            refine (HH.out _).mono ?_
            rintro e w4 ⟨rfl, q, rfl⟩
            have OD := Lib.hid (((owns_fr hown.out ((Fr.refl no wr).drewN q) (by simp))))
            have R5 := Lib.hid ((hfr.out.drewN q))
            go_wp2_with fail
            go_roundw
            case rel => exact ⟨k + 1, by go_num, by rw [HSN2.out]; go_num, by omega, by rw [HSN2.out]; exact OD, R5⟩
            case measure => first | (simp [intOf]; done) | (simp [intOf]; omega)
      · have h1 : ¬ s[k]'hks = 119 := fun e => hreg (.inl e)
        have h2 : ¬ s[k]'hks = 114 := fun e => hreg (.inr e)
        have HSN2 : Hid (regSt [A, B, C] t.data.toList (s.data.toList.take (k + 1)) = (la, at')) := Lib.hid (by
          rw [HSN.out]; unfold stepR; rw [if_neg (by rintro (e | e); exact h1 e; exact h2 e)])
        have e1 : (((s[k]'hks).toNat : Int) != 119) = true := by
          rw [bne_iff_ne]; exact fun e => h1 (HCI.out 119 e)
        have e2 : (((s[k]'hks).toNat : Int) != 114) = true := by
          rw [bne_iff_ne]; exact fun e => h2 (HCI.out 114 e)
        clear h1 h2 hreg
        go_wp2_with fail
        go_roundw
        case rel => exact ⟨k + 1, by go_num, by rw [HSN2.out], by omega, by rw [HSN2.out]; exact hown, hfr⟩
        case measure => first | (simp [intOf]; done) | (simp [intOf]; omega)
    · obtain rfl : k = s.size := by omega
      have hall : s.data.toList.take s.size = s.data.toList := by rw [← blen, List.take_length]
      have HALL := Lib.hid hall
      have FIN : Hid (wr.ownsRow w.heap.size 3 1 (.slice xa (regSt [A, B, C] t.data.toList (s.data.toList.take s.size)).1.length xc) (regsOf [A, B, C] t.data.toList s.data.toList).length (ints (regsOf [A, B, C] t.data.toList s.data.toList))) := by
        refine Lib.hid ?_
        have := owns_base hown.out (base' := w.heap.size) (fun k hk => by have := (hown.out.lt k hk).1; have := HW2.out.size; omega)
        unfold regsOf
        rw [hall] at this ⊢
        exact this
      clear hall hlen
      go_wp2_with fail
      go_ret
      exact ⟨_, rfl, HW2.out.trans hfr.out, FIN.out⟩

end Go.Proofs.YtihnkijeefkefaaGreat

namespace Go.Proofs.YtihnkijeefkefaaGreat
open Go.RowKit

attribute [local go_sem] Program.isFuncB Program.isSliceB

variable {w w' w'' w0 : World}

theorem shape_facts : ∀ n, n < 33 → (let s := (shapeOf n).data.toList
    hasN s [119, 114] = Lib.countByte s 119 + Lib.countByte s 114 ∧ decide (0 < hasN s numLetters) = Lib.containsAny s numLetters ∧ decide (0 < hasN s [108]) = hasB s 108 ∧ decide (0 < hasN s [116]) = hasB s 116) := by decide
theorem sh_facts (o : Int) : hasN (sh o) [119, 114] = manyOf o ∧ decide (0 < hasN (sh o) numLetters) = Lib.containsAny (sh o) numLetters ∧ decide (0 < hasN (sh o) [108]) = hasB (sh o) 108 ∧ decide (0 < hasN (sh o) [116]) = hasB (sh o) 116 := by
  unfold manyOf sh shapeI
  split
  · rename_i h
    exact shape_facts o.toNat (by omega)
  · decide

theorem bare_has (o A B C N : Int) (k : Nat) : bareB o A B C N k = (([A, B, C].drop (hasN (sh o) [119, 114])).all (· == 0) && (decide (0 < hasN (sh o) numLetters) || N == 0) && (decide (0 < hasN (sh o) [108]) || k == 0)) := by
  obtain ⟨h1, h2, h3, _⟩ := sh_facts o
  rw [h1, h2, h3]; rfl

set_option maxHeartbeats 4000000 in
theorem refbare_ok (w : World) (o A B C N : Int) (ua : Option Addr) (uc k : Nat) :
    Calls Tryz.prog 196 #[insV o A B C N (.slice ua k uc)] w fun e w' => e = .returned (.bool (bareB o A B C N k)) ∧ Fr no w w' := by
  have HSH := Lib.hid (fun w => refshape_all w o)
  have hok := shape_ok o
  have HC := Lib.hid (fun w => has_ok w (shapeI o) ⟨#[119, 114]⟩ (by have := hok.size; omega) (by decide))
  have HA := Lib.hid (fun w => has_ok w (shapeI o) ⟨#[105, 107, 109, 122, 102, 100, 116, 99]⟩ (by have := hok.size; omega) (by decide))
  have HL := Lib.hid (fun w => has_ok w (shapeI o) ⟨#[108]⟩ (by have := hok.size; omega) (by decide))
  have hm := many_le o
  rw [← (sh_facts o).1] at hm
  rw [bare_has]
  unfold sh at *
  clear hok
  rw [show (⟨#[119, 114]⟩ : ByteArray).data.toList = [119, 114] from rfl] at HC
  rw [show (⟨#[105, 107, 109, 122, 102, 100, 116, 99]⟩ : ByteArray).data.toList = numLetters from rfl] at HA
  rw [show (⟨#[108]⟩ : ByteArray).data.toList = [108] from rfl] at HL
  generalize hasN (shapeI o).data.toList [119, 114] = m at *
  generalize hasN (shapeI o).data.toList numLetters = n1 at *
  generalize hasN (shapeI o).data.toList [108] = n2 at *
  generalize shapeI o = s at *
  unfold insV
  have R0 : Hid (Fr no w (w.alloc (.cells #[.int .i64 o, .int .i64 A, .int .i64 B, .int .i64 C, .int .i64 N, .slice ua k uc] 112))) := Lib.hid ((Fr.refl no w).alloc _)
  have HI := Lib.hid (insObj w o A B C N (.slice ua k uc))
  go_enter Tryz.func196, Tryz.ntmps196
  go_wp2_with fail
  refine (HSH.out _).mono ?_
  rintro e w3 ⟨rfl, rfl⟩
  go_wp2_with fail
  refine (HC.out _).mono ?_
  rintro e w3 ⟨rfl, q, rfl⟩
  have hi := ((Fr.refl no (w.alloc (.cells #[.int .i64 o, .int .i64 A, .int .i64 B, .int .i64 C, .int .i64 N, .slice ua k uc] 112))).drewN q).heap HI.out (by simp)
  have R1 := Lib.hid (R0.out.drewN q)
  have hsz1 : ((w.alloc (.cells #[.int .i64 o, .int .i64 A, .int .i64 B, .int .i64 C, .int .i64 N, .slice ua k uc] 112)).drewN q).heap.size = w.heap.size + 1 := by
    show (w.alloc _).heap.size = _
    simp
  have HS1 := Lib.hid hsz1
  generalize (w.alloc (.cells #[.int .i64 o, .int .i64 A, .int .i64 B, .int .i64 C, .int .i64 N, .slice ua k uc] 112)).drewN q = W1 at *
  have HI1 := Lib.hid hi
  have c1 : W1.cell? ⟨w.heap.size, 1, none⟩ = some (.int .i64 A) := cell_of_heap hi rfl
  have c2 : W1.cell? ⟨w.heap.size, 2, none⟩ = some (.int .i64 B) := cell_of_heap hi rfl
  have c3 : W1.cell? ⟨w.heap.size, 3, none⟩ = some (.int .i64 C) := cell_of_heap hi rfl
  clear hi hsz1 HI
  go_wp2_with fail
  have R2 := Lib.hid (R1.out.alloc (.cells #[.int .i64 A, .int .i64 B, .int .i64 C] 3))
  have HI2 := Lib.hid (((Fr.refl no W1).alloc (.cells #[.int .i64 A, .int .i64 B, .int .i64 C] 3)).heap HI1.out (by simp))
  have HL2 := Lib.hid (heap_new W1 (.cells #[.int .i64 A, .int .i64 B, .int .i64 C] 3))
  generalize W1.alloc (.cells #[.int .i64 A, .int .i64 B, .int .i64 C] 3) = W2 at *
  generalize W1.heap.size = lb at *
  clear c1 c2 c3
  go_loop [6] (fun z => ∃ i : Nat, z = .int .i64 i ∧ m ≤ i ∧ i ≤ 3 ∧ Hid (∀ j, m ≤ j → j < i → [A, B, C].getD j 0 = 0)) (fun z => (3 - intOf z).toNat)
  case atStart => exact ⟨m, rfl, by omega, hm, Lib.hid (fun j h1 h2 => by omega)⟩
  case round =>
    obtain ⟨i, rfl, hi1, hi2, hz⟩ := hrel
    by_cases hlt : i < 3
    · have hlt' : (i : Int) < 3 := by omega
      have ck : W2.cell? ⟨lb, i, none⟩ = some (.int .i64 ([A, B, C].getD i 0)) := by
        refine cell_of_heap HL2.out ?_
        obtain h | h | h : i = 0 ∨ i = 1 ∨ i = 2 := by omega
        all_goals (rw [h]; rfl)
      generalize hn : [A, B, C].getD i 0 = n at *
      have HN := Lib.hid hn
      clear hn
      by_cases h0 : n = 0
      · subst h0
        go_wp2_with fail
        go_round
        case rel => exact ⟨i + 1, by go_num, by omega, by omega, Lib.hid (fun j h1 h2 => by
          rcases Nat.lt_or_ge j i with h | h
          · exact hz.out j h1 h
          · obtain rfl : j = i := by omega
            exact HN.out)⟩
        case measure => first | (simp [intOf]; done) | (simp [intOf]; omega)
      · have e1 : (n != 0) = true := by simpa using h0
        have HNO : Hid (([A, B, C].drop m).all (· == 0) = false) := Lib.hid (by
          rw [List.all_eq_false]
          refine ⟨n, ?_, by simpa using h0⟩
          rw [← HN.out]
          obtain h | h | h : i = 0 ∨ i = 1 ∨ i = 2 := by omega
          all_goals
            subst h
            obtain h | h | h : m = 0 ∨ m = 1 ∨ m = 2 := by omega
            all_goals (subst h; first | (exfalso; omega) | simp))
        clear h0
        go_wp2_with fail
        go_ret
        exact ⟨by rw [HNO.out]; rfl, R2.out⟩
    · obtain rfl : i = 3 := by omega
      have HYES : Hid (([A, B, C].drop m).all (· == 0) = true) := Lib.hid (by
        have h0 := hz.out 0
        have h1 := hz.out 1
        have h2 := hz.out 2
        simp only [List.getD_cons_zero, List.getD_cons_succ] at h0 h1 h2
        obtain h | h | h | h : m = 0 ∨ m = 1 ∨ m = 2 ∨ m = 3 := by omega
        all_goals
          subst h
          first | (simp; done) | (simp; omega))
      have d4 : W2.cell? ⟨w.heap.size, 4, none⟩ = some (.int .i64 N) := cell_of_heap HI2.out rfl
      have d5 : W2.cell? ⟨w.heap.size, 5, none⟩ = some (.slice ua k uc) := cell_of_heap HI2.out rfl
      clear hz
      by_cases p1 : 0 < n1
      all_goals by_cases pN : N = 0
      all_goals by_cases p2 : 0 < n2
      all_goals by_cases pk : k = 0
      all_goals
        rcases Bool.eq_false_or_eq_true (([A, B, C].drop m).all (· == 0) && (decide (0 < n1) || N == 0) && (decide (0 < n2) || k == 0)) with HR | HR
        all_goals try (exfalso; rw [HYES.out] at HR; simp [p1, pN, p2, pk] at HR; done)
        have HRES := Lib.hid HR
        clear HR
        first | have i1 : (0 : Int) < n1 := by omega | have i1 : ¬ (0 : Int) < n1 := by omega
        first | have i2 : (0 : Int) < n2 := by omega | have i2 : ¬ (0 : Int) < n2 := by omega
        first | have i3 : (((k : Nat) : Int) == 0) = true := by rw [beq_iff_eq]; omega
              | have i3 : (((k : Nat) : Int) == 0) = false := by rw [beq_eq_false_iff_ne]; omega
        first | have i4 : (N == 0) = true := by rw [beq_iff_eq]; omega
              | have i4 : (N == 0) = false := by rw [beq_eq_false_iff_ne]; omega
        clear p1 pN p2 pk
        go_wp2_with fail
        refine (HA.out _).mono ?_
        rintro e w3 ⟨rfl, q1, rfl⟩
        go_wp2_with fail
        first
        | (go_ret; exact ⟨by rw [HRES.out]; rfl, R2.out.drewN _⟩)
        | (refine (HL.out _).mono ?_
           rintro e w3 ⟨rfl, q2, rfl⟩
           go_wp2_with fail
           go_ret
           exact ⟨by rw [HRES.out]; rfl, R2.out.drewN _⟩)

end Go.Proofs.YtihnkijeefkefaaGreat

namespace Go.Proofs.YtihnkijeefkefaaGreat
open Go.RowKit

attribute [local go_sem] Program.isFuncB Program.isSliceB

variable {w w' w'' w0 : World}

theorem regs_wr (o A B C : Int) : regsOf [A, B, C] [119, 114] (sh o) = (fieldsOf [A, B, C] (sh o)).1 := by
  unfold regsOf; rw [(regs_fields A B C (sh o)).1]
theorem take_any_succ {α : Type} (p : α → Bool) (L : List α) (i : Nat) (h : i < L.length) (h0 : (L.take i).any p = false) : (L.take (i + 1)).any p = p L[i] := by
  rw [List.take_succ_eq_append_getElem h, List.any_append, h0]; simp

set_option maxRecDepth 100000 in
set_option maxHeartbeats 4000000 in
theorem refcheck_ok (w : World) (o A B C N regs area : Int) (u : Value) (l : List Int) (hu : Reads w u 1 l.length (ints l)) (hl : l.length ≤ 100000) :
    Calls Tryz.prog 174 #[insV o A B C N u, .int .i64 regs, .int .i64 area] w fun e w' => e = .returned (.int .i64 (checkOf o A B C N l regs area)) ∧ Fr no w w' := by
  obtain ⟨ua, uc, rfl⟩ := hu.shape
  have HI := Lib.hid (fun w => refis_all w o)
  have HU := Lib.hid hu
  have HB := Lib.hid (fun w => refbare_ok w o A B C N ua uc l.length)
  have hF := fun w => refregs_ok w o A B C N (.slice ua l.length uc) ⟨#[119, 114]⟩ (by decide)
  rw [show (⟨#[119, 114]⟩ : ByteArray).data.toList = [119, 114] from rfl, regs_wr] at hF
  have HF := Lib.hid hF
  clear hF
  have HSH := Lib.hid (fun w => refshape_all w o)
  have HOB := Lib.hid (insObj w o A B C N (.slice ua l.length uc))
  have R0 : Hid (Fr no w (w.alloc (.cells #[.int .i64 o, .int .i64 A, .int .i64 B, .int .i64 C, .int .i64 N, .slice ua l.length uc] 112))) := Lib.hid ((Fr.refl no w).alloc _)
  clear hu
  by_cases his : 0 ≤ o ∧ o < 33
  case neg =>
    have hd : Hid (decide (0 ≤ o ∧ o < 33) = false) := Lib.hid (decide_eq_false his)
    have HR : Hid (checkOf o A B C N l regs area = 16) := Lib.hid (by unfold checkOf; rw [if_pos his])
    rw [hd.out] at HI
    rw [HR.out]
    unfold insV at *
    clear his
    go_enter Tryz.func174, Tryz.ntmps174
    go_wp2_with fail
    refine (HI.out _).mono ?_
    rintro e w' ⟨rfl, rfl⟩
    go_wp2_with fail
    go_ret
    exact ⟨rfl, R0.out⟩
  have hd : Hid (decide (0 ≤ o ∧ o < 33) = true) := Lib.hid (decide_eq_true his)
  rw [hd.out] at HI
  have HIS := Lib.hid his
  clear his
  by_cases hra : regs < 0 ∨ 64 < regs ∨ area < 0 ∨ 4096 < area
  case pos =>
    have HR : Hid (checkOf o A B C N l regs area = 2) := Lib.hid (by
      unfold checkOf
      rw [if_neg (fun h => h HIS.out), if_pos (by rcases hra with h | h | h | h; exact .inl h; exact .inr (.inl h); exact .inr (.inr (.inl h)); exact .inr (.inr (.inr (.inl h))))])
    rw [HR.out]
    unfold insV at *
    have hcases : regs < 0 ∨ (¬ regs < 0 ∧ 64 < regs) ∨ (¬ regs < 0 ∧ ¬ 64 < regs ∧ area < 0) ∨ (¬ regs < 0 ∧ ¬ 64 < regs ∧ ¬ area < 0 ∧ 4096 < area) := by omega
    clear hra
    rcases hcases with h1 | ⟨h1, h2⟩ | ⟨h1, h2, h3⟩ | ⟨h1, h2, h3, h4⟩
    all_goals
      go_enter Tryz.func174, Tryz.ntmps174
      go_wp2_with fail
      refine (HI.out _).mono ?_
      rintro e w' ⟨rfl, rfl⟩
      go_wp2_with fail
      go_ret
      exact ⟨rfl, R0.out⟩
  have g1 : ¬ regs < 0 := by omega
  have g2 : ¬ 64 < regs := by omega
  have g3 : ¬ area < 0 := by omega
  have g4 : ¬ 4096 < area := by omega
  have HRA := Lib.hid hra
  clear hra
  have hfew := fields_few o A B C
  unfold sh at hfew HF
  have HFEW := Lib.hid hfew
  clear hfew
  have HCO := Lib.hid (show checkOf o A B C N l regs area = if bareB o A B C N l.length = false then 2 else if 8 < l.length then 3 else if ((fieldsOf [A, B, C] (shapeI o).data.toList).1 ++ l).any (out1 regs) = true then 5 else if (shapeI o).data.toList.any (fun c => !numOk c.toNat N area) = true then 5 else 0 from by
    unfold checkOf
    rw [if_neg (fun h => h HIS.out)]
    by_cases hb : bareB o A B C N l.length = false
    · rw [if_pos (.inr (.inr (.inr (.inr hb)))), if_pos hb]
    · rw [if_neg (by rintro (h | h | h | h | h) <;> first | exact HRA.out (.inl h) | exact HRA.out (.inr (.inl h)) | exact HRA.out (.inr (.inr (.inl h))) | exact HRA.out (.inr (.inr (.inr h))) | exact hb h), if_neg hb]; rfl)
  generalize checkOf o A B C N l regs area = res at *
  have hok := shape_ok o
  generalize fieldsOf [A, B, C] (shapeI o).data.toList = f at *
  generalize shapeI o = s at *
  generalize bareB o A B C N l.length = bb at *
  have HOK := Lib.hid hok
  have hsz := hok.size
  clear hok
  unfold insV at *
  go_enter Tryz.func174, Tryz.ntmps174
  go_wp2_with fail
  refine (HI.out _).mono ?_
  rintro e w' ⟨rfl, rfl⟩
  go_wp2_with fail
  refine (HB.out _).mono ?_
  rintro e w1 ⟨rfl, r1⟩
  have hob1 := r1.heap HOB.out (by simp)
  have R1 := Lib.hid (R0.out.trans r1)
  have HOB1 := Lib.hid hob1
  have c0 : w1.cell? ⟨w.heap.size, 0, none⟩ = some (.int .i64 o) := cell_of_heap hob1 rfl
  have c1 : w1.cell? ⟨w.heap.size, 1, none⟩ = some (.int .i64 A) := cell_of_heap hob1 rfl
  have c2 : w1.cell? ⟨w.heap.size, 2, none⟩ = some (.int .i64 B) := cell_of_heap hob1 rfl
  have c3 : w1.cell? ⟨w.heap.size, 3, none⟩ = some (.int .i64 C) := cell_of_heap hob1 rfl
  have c4 : w1.cell? ⟨w.heap.size, 4, none⟩ = some (.int .i64 N) := cell_of_heap hob1 rfl
  have c5 : w1.cell? ⟨w.heap.size, 5, none⟩ = some (.slice ua l.length uc) := cell_of_heap hob1 rfl
  clear r1 hob1
  cases bb with
  | false =>
    go_wp2_with fail
    go_ret
    exact ⟨by rw [HCO.out]; rfl, R1.out⟩
  | true =>
  have HCO2 : Hid (res = if 8 < l.length then 3 else if (f.1 ++ l).any (out1 regs) = true then 5 else if s.data.toList.any (fun c => !numOk c.toNat N area) = true then 5 else 0) := Lib.hid (by rw [HCO.out, if_neg (by simp)])
  clear HCO
  by_cases hlen : 8 < l.length
  · have hlen' : (8 : Int) < l.length := by omega
    go_wp2_with fail
    go_ret
    exact ⟨by rw [HCO2.out, if_pos hlen]; rfl, R1.out⟩
  have hlen' : ¬ (8 : Int) < l.length := by omega
  go_wp2_with fail
  have HOB1d := Lib.hid (((Fr.refl no w1).drew).heap HOB1.out (by simp))
  have R1d := Lib.hid (R1.out.drew)
  have c0 : w1.drew.cell? ⟨w.heap.size, 0, none⟩ = some (.int .i64 o) := cell_of_heap HOB1d.out rfl
  have c1 : w1.drew.cell? ⟨w.heap.size, 1, none⟩ = some (.int .i64 A) := cell_of_heap HOB1d.out rfl
  have c2 : w1.drew.cell? ⟨w.heap.size, 2, none⟩ = some (.int .i64 B) := cell_of_heap HOB1d.out rfl
  have c3 : w1.drew.cell? ⟨w.heap.size, 3, none⟩ = some (.int .i64 C) := cell_of_heap HOB1d.out rfl
  have c4 : w1.drew.cell? ⟨w.heap.size, 4, none⟩ = some (.int .i64 N) := cell_of_heap HOB1d.out rfl
  have c5 : w1.drew.cell? ⟨w.heap.size, 5, none⟩ = some (.slice ua l.length uc) := cell_of_heap HOB1d.out rfl
  refine Lex.region [1, 4] [6] (by kernel_rfl) (by kernel_rfl) ?_
  refine Lex.opens (fun w' => w'.cell? ⟨w.heap.size, 0, none⟩ = some (.int .i64 o) ∧ w'.cell? ⟨w.heap.size, 1, none⟩ = some (.int .i64 A) ∧ w'.cell? ⟨w.heap.size, 2, none⟩ = some (.int .i64 B) ∧ w'.cell? ⟨w.heap.size, 3, none⟩ = some (.int .i64 C) ∧ w'.cell? ⟨w.heap.size, 4, none⟩ = some (.int .i64 N) ∧ w'.cell? ⟨w.heap.size, 5, none⟩ = some (.slice ua l.length uc)) (⟨c0, c1, c2, c3, c4, c5⟩) ?_
  clear c0 c1 c2 c3 c4 c5
  repeat (first
    | (refine Lex.skips (by rfl) ?_; (try simp only [Act.put, List.setIfInBounds_toArray, List.set_cons_zero, List.set_cons_succ]))
    | (refine Lex.quiet (v := ?_) (by rfl) (by rfl) ?_ ?_; rotate_left; (focus (intro w' hS'; go_simp; try rfl)); (try simp only [Act.put, List.setIfInBounds_toArray, List.set_cons_zero, List.set_cons_succ])))
  refine Lex.loud (by rfl) (by rfl) ?_
  intro K' hK'
  go_simp
  refine (HF.out _).mono ?_
  rintro e w2 ⟨x, rfl, r2, hx⟩
  obtain ⟨xa, xc, rfl⟩ := owns_shape hx
  have hob2 := r2.heap HOB1d.out (by simp)
  have R2 := Lib.hid (R1d.out.trans r2)
  have HOB2 := Lib.hid hob2
  have HX := Lib.hid hx
  have HZ2 := Lib.hid r2.size
  have c0 : w2.cell? ⟨w.heap.size, 0, none⟩ = some (.int .i64 o) := cell_of_heap hob2 rfl
  have c1 : w2.cell? ⟨w.heap.size, 1, none⟩ = some (.int .i64 A) := cell_of_heap hob2 rfl
  have c2 : w2.cell? ⟨w.heap.size, 2, none⟩ = some (.int .i64 B) := cell_of_heap hob2 rfl
  have c3 : w2.cell? ⟨w.heap.size, 3, none⟩ = some (.int .i64 C) := cell_of_heap hob2 rfl
  have c4 : w2.cell? ⟨w.heap.size, 4, none⟩ = some (.int .i64 N) := cell_of_heap hob2 rfl
  have c5 : w2.cell? ⟨w.heap.size, 5, none⟩ = some (.slice ua l.length uc) := cell_of_heap hob2 rfl
  clear r2 hob2 hx
  refine hK' _ _ (⟨c0, c1, c2, c3, c4, c5⟩) ?_
  clear hK'
  try simp only [Act.put, List.setIfInBounds_toArray, List.set_cons_zero, List.set_cons_succ]
  clear c0 c1 c2 c3 c4 c5
  repeat (first
    | (refine Lex.skips (by rfl) ?_; (try simp only [Act.put, List.setIfInBounds_toArray, List.set_cons_zero, List.set_cons_succ]))
    | (refine Lex.quiet (v := ?_) (by rfl) (by rfl) ?_ ?_; rotate_left; (focus (intro w' hS'; go_simp; try rfl)); (try simp only [Act.put, List.setIfInBounds_toArray, List.set_cons_zero, List.set_cons_succ])))
  refine Lex.loud (by rfl) (by rfl) ?_
  intro K' hK'
  refine wp_append_at (.tmp 39) (.tmp 41) 26 rfl w1.drew.heap.size 3 (.int .i64 0) 1 8 Tryz.underlying26 Tryz.infoInt rfl (by decide) _ f.1.length _ rfl HX.out l.length _ (HU.out.fr R2.out (by simp)) (ints_one' l) (by have := HFEW.out.1; unfold maxLen; omega) (by have := HFEW.out.1; omega) HZ2.out ?_
  intro ga gc w4 ho hg hb
  have HV : Hid (Reads w4 (.slice ga (f.1 ++ l).length gc) 1 (f.1 ++ l).length (ints (f.1 ++ l))) := Lib.hid (by have := owns_reads ho; rw [List.length_append, show ints (f.1 ++ l) = ints f.1 ++ ints l from by simp [ints]]; exact this)
  have r4 : Fr (fun k => (Value.slice xa f.1.length xc).ownBlock = some k) w2 w4 := (Fr.refl _ w2).grown hg (fun k hk => .inl hk)
  have hxl : ∀ k, (Value.slice xa f.1.length xc).ownBlock = some k → w.heap.size < k := fun k hk => by
    have := (HX.out.lt k hk).1
    have := (Array.getElem?_eq_some_iff.1 HOB1d.out).1
    omega
  have R4 := Lib.hid (R2.out.trans' r4 (fun k hk _ => by have := hxl k hk; omega))
  have hob4 := r4.heap HOB2.out (fun hk => by have := hxl _ hk; omega)
  have HOB4 := Lib.hid hob4
  have c0 : w4.cell? ⟨w.heap.size, 0, none⟩ = some (.int .i64 o) := cell_of_heap hob4 rfl
  have c1 : w4.cell? ⟨w.heap.size, 1, none⟩ = some (.int .i64 A) := cell_of_heap hob4 rfl
  have c2 : w4.cell? ⟨w.heap.size, 2, none⟩ = some (.int .i64 B) := cell_of_heap hob4 rfl
  have c3 : w4.cell? ⟨w.heap.size, 3, none⟩ = some (.int .i64 C) := cell_of_heap hob4 rfl
  have c4 : w4.cell? ⟨w.heap.size, 4, none⟩ = some (.int .i64 N) := cell_of_heap hob4 rfl
  have c5 : w4.cell? ⟨w.heap.size, 5, none⟩ = some (.slice ua l.length uc) := cell_of_heap hob4 rfl
  clear ho hg hb r4 hxl hob4
  refine hK' _ _ (⟨c0, c1, c2, c3, c4, c5⟩) ?_
  clear hK'
  try simp only [Act.put, List.setIfInBounds_toArray, List.set_cons_zero, List.set_cons_succ]
  clear c0 c1 c2 c3 c4 c5
  repeat (first
    | (refine Lex.skips (by rfl) ?_; (try simp only [Act.put, List.setIfInBounds_toArray, List.set_cons_zero, List.set_cons_succ]))
    | (refine Lex.quiet (v := ?_) (by rfl) (by rfl) ?_ ?_; rotate_left; (focus (intro w' hS'; go_simp; try rfl)); (try simp only [Act.put, List.setIfInBounds_toArray, List.set_cons_zero, List.set_cons_succ])))
  refine Lex.done ?_
  refine Lex.ends ?_
  have hLL : (f.1 ++ l).length = f.1.length + l.length := by simp
  have HLL := Lib.hid hLL
  have HL8 : Hid ((f.1 ++ l).length ≤ 100) := Lib.hid (by have := HFEW.out.1; rw [HLL.out]; omega)
  rw [← hLL]
  clear hLL
  generalize f.1 ++ l = L at *
  have hL8 := HL8.out
  go_wp2_with fail
  go_loop [8] (fun x => ∃ i : Nat, x = .int .i64 i ∧ i ≤ L.length ∧ Hid ((L.take i).any (out1 regs) = false)) (fun x => (L.length - intOf x).toNat)
  case atStart => exact ⟨0, rfl, by omega, Lib.hid (by simp)⟩
  case round =>
    obtain ⟨i, rfl, hi, hno⟩ := hrel
    by_cases hlt : i < L.length
    · have hlt' : (i : Int) < L.length := by omega
      obtain ⟨b, o1, rfl, ci⟩ := reads_int HV.out hlt
      have HSN := Lib.hid (take_any_succ (out1 regs) L i hlt hno.out)
      have HYES : Hid (out1 regs L[i] = true → res = 5) := Lib.hid (fun h => by
        rw [HCO2.out, if_neg hlen, if_pos]
        rw [List.any_eq_true]
        exact ⟨L[i], List.getElem_mem _, h⟩)
      generalize L[i] = n at *
      have hcs : n < 0 ∨ (¬ n < 0 ∧ regs ≤ n) ∨ (¬ n < 0 ∧ ¬ regs ≤ n) := by omega
      rcases hcs with h1 | ⟨h1, h2⟩ | ⟨h1, h2⟩
      · have HQ : Hid (out1 regs n = true) := Lib.hid (by simp [out1]; omega)
        go_wp2_with fail
        go_ret
        exact ⟨by rw [HYES.out HQ.out]; rfl, R4.out⟩
      · have HQ : Hid (out1 regs n = true) := Lib.hid (by simp [out1]; omega)
        go_wp2_with fail
        go_ret
        exact ⟨by rw [HYES.out HQ.out]; rfl, R4.out⟩
      · have HQ : Hid (out1 regs n = false) := Lib.hid (by simp [out1]; omega)
        go_wp2_with fail
        go_round
        case rel => exact ⟨i + 1, by go_num, by omega, Lib.hid (by rw [HSN.out, HQ.out])⟩
        case measure => first | (simp [intOf]; done) | (simp [intOf]; omega)
    · obtain rfl : i = L.length := by omega
      have hany : L.any (out1 regs) = false := by have := hno.out; rwa [List.take_length] at this
      have HCO3 : Hid (res = if s.data.toList.any (fun c => !numOk c.toNat N area) = true then 5 else 0) := Lib.hid (by rw [HCO2.out, if_neg hlen, if_neg (by rw [hany]; simp)])
      have d0 : w4.cell? ⟨w.heap.size, 0, none⟩ = some (.int .i64 o) := cell_of_heap HOB4.out rfl
      clear HCO2 hany hno
      go_wp2_with fail
      refine (HSH.out _).mono ?_
      rintro e w' ⟨rfl, rfl⟩
      clear d0
      go_wp2_with fail
      go_loopw [10] (fun x wr => ∃ k q : Nat, x = .int .i64 k ∧ k ≤ s.size ∧ Hid (wr = w4.drewN q) ∧ Hid ((s.data.toList.take k).any (fun c => !numOk c.toNat N area) = false)) (fun x _ => (s.size - intOf x).toNat)
      case atStart => exact ⟨0, 0, rfl, by omega, Lib.hid rfl, Lib.hid (by simp)⟩
      case round =>
        obtain ⟨k, q, rfl, hk, hwr, hno⟩ := hrel
        by_cases hks : k < s.size
        · have hks' : (k : Int) < s.size := by omega
          have d4 : wr.cell? ⟨w.heap.size, 4, none⟩ = some (.int .i64 N) := by
            rw [hwr.out]; exact ((Fr.refl no w4).drewN q).cell (cell_of_heap HOB4.out rfl) (by simp)
          have hsn : (s.data.toList.take (k + 1)).any (fun c => !numOk c.toNat N area) = !numOk (s[k]'hks).toNat N area := by
            rw [btake_succ s k hks, List.any_append, hno.out]; simp
          have HSN := Lib.hid hsn
          have HMEM : Hid (numOk (s[k]'hks).toNat N area = false → res = 5) := Lib.hid (fun h => by
            rw [HCO3.out, if_pos]
            rw [List.any_eq_true]
            refine ⟨s[k]'hks, ?_, by rw [h]; rfl⟩
            have : s.data.toList[k]'(by rw [blen]; exact hks) = s[k]'hks := rfl
            rw [← this]; exact List.getElem_mem _)
          have HNUM := Lib.hid (fun w => (number_ok w ((s[k]'hks).toNat : Int) N area).mono (fun e w' (h : e = _ ∧ w = w') => (⟨h.1, h.2.symm⟩ : e = _ ∧ w' = w)))
          clear hsn
          generalize numOk (s[k]'hks).toNat N area = ok at *
          cases ok with
          | true =>
            go_wp2_with fail
            go_quiet ((go_at_call 199; exact Calls.quiet_of_same (HNUM.out _)))
            go_wp2_with fail
            go_roundw
            case rel => exact ⟨k + 1, q + nq, by go_num, by omega, Lib.hid (by rw [hwr.out, World.drewN_drewN]), Lib.hid (by rw [HSN.out]; rfl)⟩
            case measure => first | (simp [intOf]; done) | (simp [intOf]; omega)
          | false =>
            have HM5 : Hid (res = 5) := Lib.hid (HMEM.out rfl)
            go_wp2_with fail
            go_quiet ((go_at_call 199; exact Calls.quiet_of_same (HNUM.out _)))
            go_wp2_with fail
            go_ret
            exact ⟨by rw [HM5.out]; rfl, by have := hwr.out; rw [this]; exact (R4.out.drewN q).drewN nq⟩
        · obtain rfl : k = s.size := by omega
          have HZ : Hid (res = 0) := Lib.hid (by
            have h1 := hno.out
            rw [← blen, List.take_length] at h1
            rw [HCO3.out, if_neg (by rw [h1]; simp)])
          go_wp2_with fail
          go_ret
          exact ⟨by rw [HZ.out]; rfl, by have := hwr.out; rw [this]; exact R4.out.drewN q⟩

end Go.Proofs.YtihnkijeefkefaaGreat

namespace Go.Proofs.YtihnkijeefkefaaGreat
open Go.RowKit

attribute [local go_sem] Program.isFuncB Program.isSliceB

variable {w w' w'' w0 : World}

theorem fr_setRow {S : Nat → Prop} {g : Nat} {cs : Array Value} (h : Fr S w w') (hS : S g ∨ w.heap.size ≤ g) : Fr S w (w'.setRow g cs) :=
  ⟨h.os, h.tape, h.output, by simp [World.setRow, h.size], fun k hk hs => by
    have : g ≠ k := fun e => by rcases hS with m | m; exact hs (e ▸ m); omega
    rw [show (w'.setRow g cs).heap[k]? = w'.heap[k]? from by simp [World.setRow, Array.getElem?_modify, this]]
    exact h.block k hk hs⟩

theorem Tryz.infoIns : (Tryz.prog.info? 112).map (·.size) = some 6 := by kernel_rfl

set_option maxHeartbeats 1000000 in
theorem copyins_ok (w : World) (o A B C N : Int) (u : Value) (l : List Int) (hu : Reads w u 1 l.length (ints l)) (hl : l.length ≤ 100000) :
    Calls Tryz.prog 164 #[insV o A B C N u] w fun e w' => ∃ v, e = .returned (insV o A B C N v) ∧ w'.ownsRow w.heap.size 3 1 v l.length (ints l) ∧ Fr no w w' := by
  obtain ⟨ua, uc, rfl⟩ := hu.shape
  have R0 : Hid (Fr no w (((w.alloc (.cells #[.int .i64 o, .int .i64 A, .int .i64 B, .int .i64 C, .int .i64 N, .slice ua l.length uc] 112)).alloc (.cells #[.int .i64 0, .int .i64 0, .int .i64 0, .int .i64 0, .int .i64 0, .slice none 0 0] 112)).alloc (.cells #[] 3))) := Lib.hid ((((Fr.refl no w).alloc _).alloc _).alloc _)
  have HA := Lib.hid ((Fr.refl no ((w.alloc (.cells #[.int .i64 o, .int .i64 A, .int .i64 B, .int .i64 C, .int .i64 N, .slice ua l.length uc] 112)).alloc (.cells #[.int .i64 0, .int .i64 0, .int .i64 0, .int .i64 0, .int .i64 0, .slice none 0 0] 112))).alloc (.cells #[] 3) |>.heap (heap_new2 w (.cells #[.int .i64 o, .int .i64 A, .int .i64 B, .int .i64 C, .int .i64 N, .slice ua l.length uc] 112) _) (by simp))
  have HB := Lib.hid ((Fr.refl no ((w.alloc (.cells #[.int .i64 o, .int .i64 A, .int .i64 B, .int .i64 C, .int .i64 N, .slice ua l.length uc] 112)).alloc (.cells #[.int .i64 0, .int .i64 0, .int .i64 0, .int .i64 0, .int .i64 0, .slice none 0 0] 112))).alloc (.cells #[] 3) |>.heap (heap_new2' w (.cells #[.int .i64 o, .int .i64 A, .int .i64 B, .int .i64 C, .int .i64 N, .slice ua l.length uc] 112) _) (by simp))
  have ho0 := (owns_new ((w.alloc (.cells #[.int .i64 o, .int .i64 A, .int .i64 B, .int .i64 C, .int .i64 N, .slice ua l.length uc] 112)).alloc (.cells #[.int .i64 0, .int .i64 0, .int .i64 0, .int .i64 0, .int .i64 0, .slice none 0 0] 112)) 3 1)
  simp only [World.size_alloc] at ho0
  have HO := Lib.hid ho0
  clear ho0
  have HU := Lib.hid (hu.fr R0.out (by simp))
  clear hu
  unfold insV
  go_enter Tryz.func164, Tryz.ntmps164
  go_upto_region 2 with (at_builtin; go_must (refine wpList_append_at rfl (.tmp 3) _ 26 rfl (w.heap.size + 1 + 1) 3 (.int .i64 0) 1 8 Tryz.underlying26 Tryz.infoInt rfl (by decide) _ 0 _ rfl HO.out l.length _ HU.out (ints_one' l) (by unfold maxLen; omega) (by omega) (by simp only [World.size_alloc]; omega) ?_); intro ga gc w6 ho hg hb; go_must (have r6 := (Fr.refl (fun k => k = w.heap.size + 1 + 1) _).grown hg (fun k hk => .inl (by cases hk; rfl))); go_must (have HA6 := Lib.hid (r6.heap HA.out (by omega))); go_must (have HB6 := Lib.hid (r6.heap HB.out (by omega))); go_must (have R6 := Lib.hid (R0.out.trans' r6 (fun k hk _ => by omega))); go_must (have cA : w6.cell? ⟨w.heap.size, 5, none⟩ = some (.slice ua l.length uc) := cell_of_heap HA6.out rfl); go_must (have fA : w6.frozen? ⟨w.heap.size, 5, none⟩ = false := frozen_of_heap HA6.out); go_must (have HO6 := Lib.hid (owns_base ho (base' := w.heap.size) (fun k hk => by have := (ho.lt k hk).1; omega))); go_must (have HL6 := Lib.hid (fun k (hk : (Value.slice ga (0 + l.length) gc).ownBlock = some k) => (ho.lt k hk).1)); clear ho hg hb r6)
  simp only [Nat.zero_add] at *
  have HA7 := Lib.hid (heap_setCell (o := 5) (v := .slice ga l.length gc) HA6.out)
  have R7 := Lib.hid (R6.out.setCell ⟨w.heap.size, 5, none⟩ (.slice ga l.length gc) (.inr (Nat.le_refl _)))
  have r7 : Fr (only [w.heap.size]) w6 (w6.setCell ⟨w.heap.size, 5, none⟩ (.slice ga l.length gc)) := (Fr.refl _ _).setCell _ _ (.inl (by simp))
  have HB7 := Lib.hid (r7.heap HB6.out (by simp))
  have HO7 := Lib.hid (owns_fr HO6.out r7 (fun k hk => by have := HL6.out k hk; simp; omega))
  clear r7 cA fA
  generalize w6.setCell ⟨w.heap.size, 5, none⟩ (.slice ga l.length gc) = w7 at *
  refine wp_region_lit ?_
  refine wpList_load_row rfl _ _ rfl w.heap.size rfl _ _ _ _ HA7.out Tryz.underlying112 rfl (by rw [Tryz.infoIns]; rfl) ?_
  simp only [act_put, List.setIfInBounds_toArray, List.set_cons_zero, List.set_cons_succ]
  refine wpList_store_row rfl _ _ _ rfl (w.heap.size + 1) _ rfl rfl _ _ HB7.out (by rw [Tryz.infoIns]; rfl) rfl (by simp [Value.oneCell']) ?_
  rw [act_put_none]
  have HB8 := Lib.hid (setRow_heap w7 (w.heap.size + 1) _ #[.int .i64 o, .int .i64 A, .int .i64 B, .int .i64 C, .int .i64 N, .slice ga l.length gc] _ _ HB7.out)
  have R8 := Lib.hid (fr_setRow (g := w.heap.size + 1) (cs := #[.int .i64 o, .int .i64 A, .int .i64 B, .int .i64 C, .int .i64 N, .slice ga l.length gc]) R7.out (.inr (by omega)))
  have HO8 := Lib.hid (owns_fr HO7.out (fr_setRow (S := only [w.heap.size + 1]) (g := w.heap.size + 1) (cs := #[.int .i64 o, .int .i64 A, .int .i64 B, .int .i64 C, .int .i64 N, .slice ga l.length gc]) (Fr.refl _ w7) (.inl (by simp))) (fun k hk => by have := HL6.out k hk; simp; omega))
  go_wp2_with fail
  exact ⟨rfl, _, results_cell_row rfl _ _ _ _ _ _ _ rfl HB8.out Tryz.underlying112 rfl (by rw [Tryz.infoIns]; rfl), _, rfl, HO8.out, R8.out⟩

end Go.Proofs.YtihnkijeefkefaaGreat

namespace Go.Proofs.YtihnkijeefkefaaGreat
open Go.RowKit

attribute [local go_sem] Program.isFuncB Program.isSliceB

variable {w w' w'' w0 : World}

set_option maxHeartbeats 2000000 in
theorem sameins_ok (w : World) (o A B C N o' A' B' C' N' : Int) (u v : Value) (l m : List Int) (hu : Reads w u 1 l.length (ints l)) (hv : Reads w v 1 m.length (ints m)) (hl : l.length ≤ 1000000) :
    Calls Tryz.prog 165 #[insV o A B C N u, insV o' A' B' C' N' v] w fun e w' => e = .returned (.bool (decide (o = o' ∧ A = A' ∧ B = B' ∧ C = C' ∧ N = N' ∧ l = m))) ∧ Fr no w w' := by
  unfold insV
  have r : Fr no w ((w.alloc (.cells #[.int .i64 o, .int .i64 A, .int .i64 B, .int .i64 C, .int .i64 N, u] 112)).alloc (.cells #[.int .i64 o', .int .i64 A', .int .i64 B', .int .i64 C', .int .i64 N', v] 112)) := ((Fr.refl no w).alloc _).alloc _
  have HE := Lib.hid (same_ints _ u v l m (hu.fr r (by simp)) (hv.fr r (by simp)) hl)
  have R := Lib.hid r
  obtain ⟨ua, uc, rfl⟩ := hu.shape
  obtain ⟨va, vc, rfl⟩ := hv.shape
  clear hu hv r
  have HH : Hid (∀ b : Bool, (o == o') = b ∨ (A == A') = b ∨ (B == B') = b ∨ (C == C') = b ∨ (N == N') = b → b = false → decide (o = o' ∧ A = A' ∧ B = B' ∧ C = C' ∧ N = N' ∧ l = m) = false) := Lib.hid (by
    intro b hb hf
    subst hf
    refine decide_eq_false ?_
    rintro ⟨rfl, rfl, rfl, rfl, rfl, rfl⟩
    simp at hb)
  cases h0 : (o == o')
  case false =>
    have HN := Lib.hid (HH.out _ (.inl h0) rfl)
    go_enter Tryz.func165, Tryz.ntmps165
    go_wp2_with fail
    go_ret
    exact ⟨by rw [HN.out]; rfl, R.out⟩
  cases h1 : (A == A')
  case false =>
    have HN := Lib.hid (HH.out _ (.inr (.inl h1)) rfl)
    go_enter Tryz.func165, Tryz.ntmps165
    go_wp2_with fail
    go_ret
    exact ⟨by rw [HN.out]; rfl, R.out⟩
  cases h2 : (B == B')
  case false =>
    have HN := Lib.hid (HH.out _ (.inr (.inr (.inl h2))) rfl)
    go_enter Tryz.func165, Tryz.ntmps165
    go_wp2_with fail
    go_ret
    exact ⟨by rw [HN.out]; rfl, R.out⟩
  cases h3 : (C == C')
  case false =>
    have HN := Lib.hid (HH.out _ (.inr (.inr (.inr (.inl h3)))) rfl)
    go_enter Tryz.func165, Tryz.ntmps165
    go_wp2_with fail
    go_ret
    exact ⟨by rw [HN.out]; rfl, R.out⟩
  cases h4 : (N == N')
  case false =>
    have HN := Lib.hid (HH.out _ (.inr (.inr (.inr (.inr h4)))) rfl)
    go_enter Tryz.func165, Tryz.ntmps165
    go_wp2_with fail
    go_ret
    exact ⟨by rw [HN.out]; rfl, R.out⟩
  have HY : Hid (decide (o = o' ∧ A = A' ∧ B = B' ∧ C = C' ∧ N = N' ∧ l = m) = decide (l = m)) := Lib.hid (by
    rw [beq_iff_eq] at h0 h1 h2 h3 h4
    subst h0 h1 h2 h3 h4
    simp)
  go_enter Tryz.func165, Tryz.ntmps165
  go_wp2_with fail
  refine HE.out.mono ?_
  rintro e w3 ⟨rfl, q, rfl⟩
  go_wp2_with fail
  go_ret
  exact ⟨by rw [HY.out]; rfl, R.out.drewN q⟩

end Go.Proofs.YtihnkijeefkefaaGreat

namespace Go.Proofs.YtihnkijeefkefaaGreat
open Go.RowKit

attribute [local go_sem] Program.isFuncB Program.isSliceB

variable {w w' w'' w0 : World}

/-! ### the plain law of OpWithin -/
theorem fields_sub (regs : List Int) : ∀ (n : Nat) (s : List UInt8), s.length = n → (∀ x ∈ (fieldsOf regs s).2.1, x ∈ (fieldsOf regs s).1) ∧ ((fieldsOf regs s).2.2 = -1 ∨ (fieldsOf regs s).2.2 ∈ (fieldsOf regs s).1)
  | 0, s, h => by rw [List.length_eq_zero_iff.1 h]; simp [fieldsOf]
  | n + 1, s, h => by
    have hne : s ≠ [] := by rintro rfl; simp at h
    rw [← List.dropLast_concat_getLast hne, fieldsOf_snoc]
    obtain ⟨h1, h2⟩ := fields_sub regs n s.dropLast (by simp [h])
    generalize s.getLast hne = c
    generalize fieldsOf regs s.dropLast = st at *
    unfold stepF
    split
    · refine ⟨fun x hx => List.mem_append_left _ (h1 x hx), .inr (by simp)⟩
    · split
      · refine ⟨fun x hx => ?_, ?_⟩
        · rcases List.mem_append.1 hx with h | h
          · exact List.mem_append_left _ (h1 x h)
          · exact List.mem_append_right _ h
        · rcases h2 with h | h
          · exact .inl h
          · exact .inr (List.mem_append_left _ h)
      · exact ⟨h1, h2⟩

structure Fine (o A B C N : Int) (l : List Int) (regs area : Int) : Prop where
  op : 0 ≤ o ∧ o < 33
  lim : ¬ (regs < 0 ∨ 64 < regs ∨ area < 0 ∨ 4096 < area ∨ bareB o A B C N l.length = false)
  few : ¬ 8 < l.length
  all : ¬ ((fieldsOf [A, B, C] (sh o)).1 ++ l).any (out1 regs) = true
  num : ¬ (sh o).any (fun c => !numOk c.toNat N area) = true
theorem fine_iff (o A B C N : Int) (l : List Int) (regs area : Int) : checkOf o A B C N l regs area = 0 ↔ Fine o A B C N l regs area := by
  unfold checkOf
  constructor
  · intro h
    by_cases h1 : 0 ≤ o ∧ o < 33
    · rw [if_neg (fun h => h h1)] at h
      by_cases h2 : regs < 0 ∨ 64 < regs ∨ area < 0 ∨ 4096 < area ∨ bareB o A B C N l.length = false
      · rw [if_pos h2] at h; cases h
      rw [if_neg h2] at h
      by_cases h3 : 8 < l.length
      · rw [if_pos h3] at h; cases h
      rw [if_neg h3] at h
      by_cases h4 : ((fieldsOf [A, B, C] (sh o)).1 ++ l).any (out1 regs) = true
      · rw [if_pos h4] at h; cases h
      rw [if_neg h4] at h
      by_cases h5 : (sh o).any (fun c => !numOk c.toNat N area) = true
      · rw [if_pos h5] at h; cases h
      exact ⟨h1, h2, h3, h4, h5⟩
    · rw [if_pos h1] at h; cases h
  · rintro ⟨h1, h2, h3, h4, h5⟩
    rw [if_neg (fun h => h h1), if_neg h2, if_neg h3, if_neg h4, if_neg h5]

theorem numOk_more (c N a b : Int) (h : numOk c N a = true) (hab : a ≤ b) : numOk c N b = true := by
  unfold numOk at *
  repeat' split at h
  all_goals first
    | (rename_i e; subst e; simpa using h)
    | (simp_all; done)
    | (simp_all; omega)

theorem fine_more {o A B C N : Int} {l : List Int} {regs area more wider : Int} (h : Fine o A B C N l regs area) (h1 : regs ≤ more) (h2 : more ≤ 64) (h3 : area ≤ wider) (h4 : wider ≤ 4096) : Fine o A B C N l more wider := by
  refine ⟨h.op, ?_, h.few, ?_, ?_⟩
  · have := h.lim
    rintro (h | h | h | h | h)
    · omega
    · omega
    · omega
    · omega
    · exact this (.inr (.inr (.inr (.inr h))))
  · intro hx
    apply h.all
    rw [List.any_eq_true] at hx ⊢
    obtain ⟨x, hx, ho⟩ := hx
    refine ⟨x, hx, ?_⟩
    simp [out1] at ho ⊢
    omega
  · intro hx
    apply h.num
    rw [List.any_eq_true] at hx ⊢
    obtain ⟨x, hx, ho⟩ := hx
    refine ⟨x, hx, ?_⟩
    cases hn : numOk (x.toNat) N area with
    | false => rfl
    | true => rw [numOk_more _ _ _ _ hn h3] at ho; cases ho

/-- all that is read or written lies within -/
theorem fine_reads {o A B C N : Int} {l : List Int} {regs area : Int} (h : Fine o A B C N l regs area) : (∀ x ∈ readsOf o A B C l, 0 ≤ x ∧ x < regs) ∧ ((fieldsOf [A, B, C] (sh o)).2.2 = -1 ∨ 0 ≤ (fieldsOf [A, B, C] (sh o)).2.2 ∧ (fieldsOf [A, B, C] (sh o)).2.2 < regs) := by
  have hall : ∀ x ∈ (fieldsOf [A, B, C] (sh o)).1 ++ l, 0 ≤ x ∧ x < regs := fun x hx => by
    have h1 := h.all
    rw [List.any_eq_true] at h1
    have h2 : ¬ out1 regs x = true := fun h => h1 ⟨x, hx, h⟩
    simp [out1] at h2
    omega
  obtain ⟨s1, s2⟩ := fields_sub [A, B, C] _ (sh o) rfl
  refine ⟨fun x hx => ?_, ?_⟩
  · unfold readsOf at hx
    rcases List.mem_append.1 hx with h | h
    · exact hall x (List.mem_append_left _ (s1 x h))
    · split at h
      · exact hall x (List.mem_append_right _ h)
      · cases h
  · rcases s2 with h | h
    · exact .inl h
    · exact .inr (hall _ (List.mem_append_left _ h))

theorem jumpsB : ((List.range 33).all fun n => (hasB (shapeOf n).data.toList 116 == (n == 25 || n == 26 || n == 27)) && (!hasB (shapeOf n).data.toList 116 || (shapeOf n).data.toList.contains 116)) = true := by decide
theorem fine_target {o A B C N : Int} {l : List Int} {regs area : Int} (h : Fine o A B C N l regs area) :
    decide (0 ≤ (if hasB (sh o) 116 = true then N else -1)) = (o == 25 || o == 26 || o == 27) := by
  have h1 := h.op
  obtain ⟨m, rfl⟩ : ∃ m : Nat, o = m := ⟨o.toNat, by omega⟩
  have h2 := List.all_eq_true.1 jumpsB m (by simp; omega)
  have hs : sh m = (shapeOf m).data.toList := by unfold sh shapeI; rw [if_pos h1, Int.toNat_natCast]
  simp only [Bool.and_eq_true, beq_iff_eq] at h2
  obtain ⟨e1, e2⟩ := h2
  have hc : (((m : Int) == 25) || ((m : Int) == 26) || ((m : Int) == 27)) = (m == 25 || m == 26 || m == 27) := by
    rw [Bool.eq_iff_iff]
    simp
    omega
  rw [hc, hs]
  rw [e1] at e2 ⊢
  cases hb : (m == 25 || m == 26 || m == 27) with
  | false => simp
  | true =>
    rw [hb] at e2
    simp at e2
    have hn := h.num
    rw [List.any_eq_true] at hn
    have h5 : numOk 116 N area = true := by
      cases hk : numOk 116 N area with
      | true => rfl
      | false => exact (hn ⟨116, by rw [hs]; simpa using e2, by show (!numOk 116 N area) = true; rw [hk]; rfl⟩).elim
    simp [numOk] at h5
    simp
    exact h5.1

end Go.Proofs.YtihnkijeefkefaaGreat

namespace Go.Proofs.YtihnkijeefkefaaGreat
open Go.RowKit

theorem len_six : ∀ (es : List Value), es.length = 6 → ∃ a b c d e f, es = [a, b, c, d, e, f]
  | [a, b, c, d, e, f], _ => ⟨a, b, c, d, e, f, rfl⟩

/-- an instruction that was handed in -/
theorem ins_of {w : World} {n : Nat} {cs : List Value} {d : Dt} (h : Rd Tryz.prog w n 112 cs d) :
    ∃ (o A B C N : Int) (u : Value) (l : List Int), cs = [.int .i64 o, .int .i64 A, .int .i64 B, .int .i64 C, .int .i64 N, u] ∧ Reads w u 1 l.length (ints l) ∧ l.length ≤ maxLen ∧ (∀ z ∈ l, (Lit.int .i64 z).wf = true) ∧
      (Lit.int .i64 o).wf = true ∧ (Lit.int .i64 A).wf = true ∧ (Lit.int .i64 B).wf = true ∧ (Lit.int .i64 C).wf = true ∧ (Lit.int .i64 N).wf = true := by
  obtain ⟨fl, -, hlen, -, hf⟩ := h.fields (z := 6) Tryz.underlying112 (by kernel_rfl)
  obtain ⟨a0, a1, a2, a3, a4, a5, rfl⟩ := len_six cs hlen
  obtain ⟨_, -, r0⟩ := hf 0 3 0 1 rfl (by kernel_rfl)
  obtain ⟨_, -, r1⟩ := hf 1 3 1 1 rfl (by kernel_rfl)
  obtain ⟨_, -, r2⟩ := hf 2 3 2 1 rfl (by kernel_rfl)
  obtain ⟨_, -, r3⟩ := hf 3 3 3 1 rfl (by kernel_rfl)
  obtain ⟨_, -, r4⟩ := hf 4 3 4 1 rfl (by kernel_rfl)
  obtain ⟨_, -, r5⟩ := hf 5 26 5 1 rfl (by kernel_rfl)
  obtain ⟨o, e0, -, w0⟩ := r0.int Tryz.underlying3
  obtain ⟨A, e1, -, w1⟩ := r1.int Tryz.underlying3
  obtain ⟨B, e2, -, w2⟩ := r2.int Tryz.underlying3
  obtain ⟨C, e3, -, w3⟩ := r3.int Tryz.underlying3
  obtain ⟨N, e4, -, w4⟩ := r4.int Tryz.underlying3
  obtain ⟨l, -, hr, hz, hm⟩ := Rd.reads (v := a5) Tryz.underlying26 Tryz.underlying3 (by kernel_rfl) r5
  simp at e0 e1 e2 e3 e4
  subst e0 e1 e2 e3 e4
  exact ⟨o, A, B, C, N, a5, l, rfl, by simpa [ints] using hr, hm, hz, w0, w1, w2, w3, w4⟩

end Go.Proofs.YtihnkijeefkefaaGreat

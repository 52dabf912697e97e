import Derived.Test.YtkgcfllbkjlfcaaO18
namespace Go.Proofs.Ytkgcfllbkjlfcaa
open Go.RowKit

attribute [local go_sem] Program.isFuncB Program.isSliceB

variable {w w' w'' w0 : World}

set_option maxHeartbeats 1000000 in
theorem refsame_ok (w : World) (o A B C N o' A' B' C' N' : Int) (u v : Value) (l m : List Int) (hu : Reads w u 1 l.length (ints l)) (hv : Reads w v 1 m.length (ints m)) (hl : l.length ≤ 9223372036854775807) (hm : m.length ≤ 9223372036854775807) :
    Calls Try.prog 26 #[insV o A B C N u, insV o' A' B' C' N' v] w fun e w' => e = .returned (.bool (decide (o = o' ∧ A = A' ∧ B = B' ∧ C = C' ∧ N = N' ∧ l = m))) ∧ Fr no w w' := by
  unfold insV
  have r : Fr no w ((w.alloc (.cells #[.int .i64 o, .int .i64 A, .int .i64 B, .int .i64 C, .int .i64 N, u] 30)).alloc (.cells #[.int .i64 o', .int .i64 A', .int .i64 B', .int .i64 C', .int .i64 N', v] 30)) := ((Fr.refl no w).alloc _).alloc _
  have HU := Lib.hid (hu.fr r (by simp))
  have HV := Lib.hid (hv.fr r (by simp))
  have R := Lib.hid r
  obtain ⟨ua, uc, rfl⟩ := hu.shape
  obtain ⟨va, vc, rfl⟩ := hv.shape
  clear hu hv r
  by_cases h1 : o = o'
  case neg =>
    have hd : Hid (decide (o = o' ∧ A = A' ∧ B = B' ∧ C = C' ∧ N = N' ∧ l = m) = false) := Lib.hid (decide_eq_false (fun h => h1 h.1))
    have e1 : (o != o') = true := by simpa using h1
    rw [hd.out]
    clear h1
    go_enter Try.func26, Try.ntmps26
    go_wp2_with fail
    go_ret
    exact ⟨rfl, R.out⟩
  subst h1
  by_cases h1 : A = A'
  case neg =>
    have hd : Hid (decide (o = o ∧ A = A' ∧ B = B' ∧ C = C' ∧ N = N' ∧ l = m) = false) := Lib.hid (decide_eq_false (fun h => h1 h.2.1))
    have e1 : (A != A') = true := by simpa using h1
    rw [hd.out]
    clear h1
    go_enter Try.func26, Try.ntmps26
    go_wp2_with fail
    go_ret
    exact ⟨rfl, R.out⟩
  subst h1
  by_cases h1 : B = B'
  case neg =>
    have hd : Hid (decide (o = o ∧ A = A ∧ B = B' ∧ C = C' ∧ N = N' ∧ l = m) = false) := Lib.hid (decide_eq_false (fun h => h1 h.2.2.1))
    have e1 : (B != B') = true := by simpa using h1
    rw [hd.out]
    clear h1
    go_enter Try.func26, Try.ntmps26
    go_wp2_with fail
    go_ret
    exact ⟨rfl, R.out⟩
  subst h1
  by_cases h1 : C = C'
  case neg =>
    have hd : Hid (decide (o = o ∧ A = A ∧ B = B ∧ C = C' ∧ N = N' ∧ l = m) = false) := Lib.hid (decide_eq_false (fun h => h1 h.2.2.2.1))
    have e1 : (C != C') = true := by simpa using h1
    rw [hd.out]
    clear h1
    go_enter Try.func26, Try.ntmps26
    go_wp2_with fail
    go_ret
    exact ⟨rfl, R.out⟩
  subst h1
  by_cases h1 : N = N'
  case neg =>
    have hd : Hid (decide (o = o ∧ A = A ∧ B = B ∧ C = C ∧ N = N' ∧ l = m) = false) := Lib.hid (decide_eq_false (fun h => h1 h.2.2.2.2.1))
    have e1 : (N != N') = true := by simpa using h1
    rw [hd.out]
    clear h1
    go_enter Try.func26, Try.ntmps26
    go_wp2_with fail
    go_ret
    exact ⟨rfl, R.out⟩
  subst h1
  by_cases hlen : l.length = m.length
  case neg =>
    have hd : Hid (decide (o = o ∧ A = A ∧ B = B ∧ C = C ∧ N = N ∧ l = m) = false) := Lib.hid (decide_eq_false (fun h => hlen (by rw [h.2.2.2.2.2])))
    have e1 : ((l.length : Int) != m.length) = true := by simp; omega
    rw [hd.out]
    clear hlen
    go_enter Try.func26, Try.ntmps26
    go_wp2_with fail
    go_ret
    exact ⟨rfl, R.out⟩
  have hd : Hid (decide (o = o ∧ A = A ∧ B = B ∧ C = C ∧ N = N ∧ l = m) = decide (l = m)) := Lib.hid (by simp)
  rw [hd.out]
  clear hd
  have HOA := Lib.hid (((Fr.refl no (w.alloc (.cells #[.int .i64 o, .int .i64 A, .int .i64 B, .int .i64 C, .int .i64 N, .slice ua l.length uc] 30))).alloc (.cells #[.int .i64 o, .int .i64 A, .int .i64 B, .int .i64 C, .int .i64 N, .slice va m.length vc] 30)).heap (heap_new w (.cells #[.int .i64 o, .int .i64 A, .int .i64 B, .int .i64 C, .int .i64 N, .slice ua l.length uc] 30)) (by simp))
  have HOB := Lib.hid (heap_new2' w (.cells #[.int .i64 o, .int .i64 A, .int .i64 B, .int .i64 C, .int .i64 N, .slice ua l.length uc] 30) (.cells #[.int .i64 o, .int .i64 A, .int .i64 B, .int .i64 C, .int .i64 N, .slice va m.length vc] 30))
  have HL := Lib.hid hlen
  have hlen' : (m.length : Int) = l.length := by omega
  clear hlen
  generalize hmm : m.length = mm at *
  obtain rfl : mm = l.length := by omega
  have HL2 := Lib.hid hmm
  clear hmm hlen'
  go_enter Try.func26, Try.ntmps26
  go_wp2_with fail
  go_loopw [5] (fun x wr => ∃ i : Nat, x = .int .i64 i ∧ i ≤ l.length ∧ Hid (l.take i = m.take i) ∧ Hid (Fr no w wr) ∧ Hid (wr.heap[w.heap.size]? = some (.cells #[.int .i64 o, .int .i64 A, .int .i64 B, .int .i64 C, .int .i64 N, .slice ua l.length uc] 30 (0, 0))) ∧
    Hid (wr.heap[w.heap.size + 1]? = some (.cells #[.int .i64 o, .int .i64 A, .int .i64 B, .int .i64 C, .int .i64 N, .slice va l.length vc] 30 (0, 0))) ∧ Hid (Reads wr (.slice ua l.length uc) 1 l.length (ints l)) ∧ Hid (Reads wr (.slice va l.length vc) 1 l.length (ints m))) (fun x _ => (l.length - intOf x).toNat)
  case atStart => exact ⟨0, rfl, by omega, Lib.hid (by simp), R, HOA, HOB, HU, HV⟩
  case round =>
    obtain ⟨i, rfl, hi, hpre, hfr, hoa, hob, hu, hv⟩ := hrel
    have d5 : wr.cell? ⟨w.heap.size, 5, none⟩ = some (.slice ua l.length uc) := cell_of_heap hoa.out rfl
    have e5 : wr.cell? ⟨w.heap.size + 1, 5, none⟩ = some (.slice va l.length vc) := cell_of_heap hob.out rfl
    by_cases hlt : i < l.length
    · have hlt2 : i < m.length := by rw [HL2.out]; exact hlt
      obtain ⟨b, o1, rfl, c1⟩ := reads_int hu.out hlt
      obtain ⟨b', o1', rfl, c2⟩ := reads_int (HL2.out ▸ hv.out : Reads wr (.slice va m.length vc) 1 m.length (ints m)) hlt2
      have hlt' : (i : Int) < l.length := by omega
      by_cases hne : l[i] = m[i]
      · have hpre2 : Hid (l.take (i + 1) = m.take (i + 1)) := by
          refine Lib.hid ?_
          rw [List.take_succ_eq_append_getElem hlt, List.take_succ_eq_append_getElem hlt2, hpre.out, hne]
        have hc : (l[i] == m[i]) = true := by simp [hne]
        clear hne hpre
        generalize l[i] = p at c1 hc
        generalize m[i] = p2 at c2 hc
        obtain rfl : p = p2 := by simpa using hc
        clear hc
        go_wp2_with fail
        go_quiet (fail)
        go_wp2_with fail
        go_roundw
        case rel => exact ⟨i + 1, by go_num, by omega, hpre2, Lib.hid (hfr.out.drewN _), hoa, hob, hu, hv⟩
        case measure => first | (simp [intOf]; done) | (simp [intOf]; omega)
      · have hno : Hid (l ≠ m) := Lib.hid (by rintro rfl; exact hne rfl)
        have hc : (l[i] != m[i]) = true := by simpa using hne
        clear hne hpre
        generalize l[i] = p at c1 hc
        generalize m[i] = p2 at c2 hc
        go_wp2_with fail
        go_quiet (fail)
        go_wp2_with fail
        go_ret
        refine ⟨?_, hfr.out.drewN _⟩
        rw [decide_eq_false hno.out]; rfl
    · obtain rfl : i = l.length := by omega
      have heq : Hid (l = m) := Lib.hid (by have := hpre.out; rwa [List.take_length, ← HL2.out, List.take_length] at this)
      clear hpre
      go_wp2_with fail
      go_ret
      refine ⟨?_, hfr.out⟩
      rw [decide_eq_true heq.out]; rfl

end Go.Proofs.Ytkgcfllbkjlfcaa

import Derived.Test.YtpgmfifieilhkaaC5
namespace Go.Proofs.Ytpgmfifieilhkaa
open Go.RowKit

attribute [local go_sem] Program.isFuncB Program.isSliceB

variable {w w' : World} {words : Nat} {P : List (Nat × List Nat)} {s : CS}

def cmpAt (fr many n : Nat) : Int := if fr + many ≤ n then -1 else if n < fr then 1 else 0

set_option maxHeartbeats 1000000 in
theorem cmp_any (w : World) (lp fr many n : Nat) (f : Int) (h : w.heap[lp]? = some (.cells #[.int .i64 f, .int .i64 fr, .int .i64 many] 75 (0, 0))) (h1 : fr ≤ 1000000) (h2 : many ≤ 1000000) (h3 : n ≤ 1000000) :
    Calls Try.prog 33 #[.pointer (some ⟨lp, 0, none⟩), .int .i64 n] w fun e w' => e = .returned (.int .i64 (cmpAt fr many n)) ∧ ∃ q, w' = w.drewN q := by
  have c1 : w.cell? ⟨lp, 1, none⟩ = some (.int .i64 fr) := cell_of_heap h rfl
  have c2 : w.cell? ⟨lp, 2, none⟩ = some (.int .i64 many) := cell_of_heap h rfl
  clear h
  by_cases g1 : fr + many ≤ n
  · have HF : Hid (cmpAt fr many n = -1) := by unfold Hid cmpAt; rw [if_pos g1]
    have g1' : (fr : Int) + many ≤ n := by omega
    clear g1
    go_enter Try.func33, Try.ntmps33
    go_wp2
    go_quiet (fail)
    go_wp2
    go_ret
    exact ⟨by rw [HF.out]; rfl, _, rfl⟩
  · by_cases g2 : n < fr
    · have HF : Hid (cmpAt fr many n = 1) := by unfold Hid cmpAt; rw [if_neg g1, if_pos g2]
      have g1' : ¬ (fr : Int) + many ≤ n := by omega
      have g2' : (n : Int) < fr := by omega
      clear g1 g2
      go_enter Try.func33, Try.ntmps33
      go_wp2
      go_quiet (fail)
      go_wp2
      go_ret
      exact ⟨by rw [HF.out]; rfl, _, rfl⟩
    · have HF : Hid (cmpAt fr many n = 0) := by unfold Hid cmpAt; rw [if_neg g1, if_neg g2]
      have g1' : ¬ (fr : Int) + many ≤ n := by omega
      have g2' : ¬ (n : Int) < fr := by omega
      clear g1 g2
      go_enter Try.func33, Try.ntmps33
      go_wp2
      go_quiet (fail)
      go_wp2
      go_ret
      exact ⟨by rw [HF.out]; rfl, _, rfl⟩

theorem fromOf_succ (P : List (Nat × List Nat)) (i : Nat) (hi : i < P.length) : fromOf P (i + 1) = fromOf P i + P[i].2.length := by
  unfold fromOf
  rw [List.take_succ_eq_append_getElem hi, flat_app]
  have : flat [P[i]] = P[i].2 := by simp [flat]
  rw [this, List.length_append]
theorem fromOf_mono (P : List (Nat × List Nat)) : ∀ i j, i ≤ j → fromOf P i ≤ fromOf P j := by
  intro i j hij
  unfold fromOf
  have : flat (P.take j) = flat ((P.take j).take i) ++ flat ((P.take j).drop i) := by rw [flat, flat, flat, ← List.flatMap_append, List.take_append_drop]
  rw [this, List.length_append, List.take_take, Nat.min_eq_left hij]
  omega
theorem fromOf_all (P : List (Nat × List Nat)) : fromOf P P.length = (flat P).length := by unfold fromOf; rw [List.take_length]

set_option maxHeartbeats 2000000 in
theorem search_any (h : CacheAt w words P s) (n : Nat) (hn : n < (flat P).length) (la : Option Addr) (lk : Nat) (hlv : s.lv = .slice la P.length lk) :
    Calls Try.prog 32 #[.slice la P.length lk, .int .i64 n, .func (.func 33) #[] #[]] w fun e w' => (∃ i b, e = .returned (.tuple #[.int .i64 (i : Nat), .bool b]) ∧ ∃ hi : i < P.length, fromOf P i ≤ n ∧ n < fromOf P (i + 1)) ∧ ∃ q, w' = w.drewN q := by
  have hfew : (flat P).length ≤ 65536 := Nat.le_trans h.ok.room h.ok.few
  have hPl : P.length ≤ 65536 := Nat.le_trans (len_flat P fun x hx => (h.ok.lt x hx).2.1) hfew
  have hcmp : ∀ (q : Nat) (i : Nat) (hi : i < P.length), ∃ b o, la = some ⟨b, o, none⟩ ∧ (w.drewN q).cell? ⟨b, o + i, none⟩ = some (.pointer (some ⟨s.lp P[i].1, 0, none⟩)) ∧
      Calls Try.prog 33 #[.pointer (some ⟨s.lp P[i].1, 0, none⟩), .int .i64 n] (w.drewN q) fun e w' => e = .returned (.int .i64 (cmpAt (fromOf P i) P[i].2.length n)) ∧ ∃ q', w' = (w.drewN q).drewN q' := by
    intro q i hi
    obtain ⟨b, o, e1, e2⟩ := (owns_reads (hlv ▸ h.lies)).at1 (k := i) (u := .pointer (some ⟨s.lp P[i].1, 0, none⟩)) (by simp [hi])
    have h1 := fromOf_mono P i P.length (by omega)
    have h2 := fromOf_succ P i hi
    have h3 := fromOf_mono P (i + 1) P.length (by omega)
    rw [fromOf_all] at h1 h3
    exact ⟨b, o, e1, e2, cmp_any _ _ _ _ _ _ (h.lie i hi) (by omega) (by omega) (by omega)⟩
  have HC := Lib.hid hcmp
  clear hcmp h hlv
  go_enter Try.func32, Try.ntmps32
  go_wp2_with fail
  go_loopw [9, 10] (fun lo hi wr => ∃ i j q : Nat, lo = .int .i64 i ∧ hi = .int .i64 j ∧ i ≤ j ∧ j ≤ P.length ∧ fromOf P i ≤ n ∧ (j < P.length → n < fromOf P (j + 1)) ∧ wr = w.drewN q) (fun lo hi _ => (intOf hi - intOf lo).toNat)
  case atStart => exact ⟨0, P.length, 0, rfl, rfl, by omega, by omega, by simp [fromOf, flat], by omega, rfl⟩
  case round =>
    obtain ⟨i, j, q, rfl, rfl, h1, h2, h3, h4, rfl⟩ := hrel
    by_cases hlt : i < j
    · have hm : (i + j) / 2 < j ∧ i ≤ (i + j) / 2 := by omega
      obtain ⟨b, o, rfl, c1, hcall⟩ := HC.out q ((i + j) / 2) (by omega)
      have hfs := fromOf_succ P ((i + j) / 2) (by omega)
      have HCall := Lib.hid hcall
      have HFS := Lib.hid hfs
      have H4 := Lib.hid h4
      clear hcall hfs h4
      have hlt' : (i : Int) < j := by omega
      go_wp2_with fail
      refine HCall.out.mono ?_
      rintro e w' ⟨rfl, q', rfl⟩
      have hw : ∀ q', ∃ q'', (w.drewN q).drewN q' = w.drewN q'' := fun q' => ⟨q + q', by simp [World.drewN, Nat.add_assoc]⟩
      by_cases g1 : fromOf P ((i + j) / 2) + P[(i + j) / 2].2.length ≤ n
      · have e1 : cmpAt (fromOf P ((i + j) / 2)) P[(i + j) / 2].2.length n = -1 := by unfold cmpAt; rw [if_pos g1]
        rw [e1]
        have G1 := Lib.hid g1
        clear g1 e1
        go_wp2_with fail
        go_roundw
        case rel =>
          exact ⟨(i + j) / 2 + 1, j, q + q', by go_num, rfl, by omega, by omega, by rw [HFS.out]; exact G1.out, H4.out, rfl⟩
        case measure => simp [intOf]; omega
      · have e1 : 0 ≤ cmpAt (fromOf P ((i + j) / 2)) P[(i + j) / 2].2.length n := by
          unfold cmpAt; rw [if_neg g1]; split <;> omega
        generalize cmpAt (fromOf P ((i + j) / 2)) P[(i + j) / 2].2.length n = z at *
        have G1 := Lib.hid g1
        clear g1
        go_wp2_with fail
        go_roundw
        case rel =>
          exact ⟨i, (i + j) / 2, q + q', rfl, by go_num, by omega, by omega, h3, fun _ => by rw [HFS.out]; have := G1.out; omega, rfl⟩
        case measure => simp [intOf]; omega
    · obtain rfl : i = j := by omega
      have hiN : i < P.length := by
        rcases Nat.lt_or_ge i P.length with h | h
        · exact h
        · obtain rfl : i = P.length := by omega
          rw [fromOf_all] at h3; omega
      have h5 := h4 hiN
      obtain ⟨b, o, rfl, c1, hcall⟩ := HC.out q i hiN
      have HCall := Lib.hid hcall
      clear hcall h4
      have hiN' : (i : Int) < P.length := by omega
      go_wp2_with fail
      refine HCall.out.mono ?_
      rintro e w' ⟨rfl, q', rfl⟩
      generalize cmpAt (fromOf P i) P[i].2.length n = z at *
      go_wp2_with fail
      go_ret2
      exact ⟨⟨i, _, rfl, hiN, h3, h5⟩, q + q', by simp [World.drewN, Nat.add_assoc]⟩

/-- whose word it is -/
def who : List (Nat × List Nat) → Nat → Nat
  | [], _ => 0
  | (f, ws) :: P, n => if n < ws.length then f else who P (n - ws.length)
theorem who_at : ∀ (P : List (Nat × List Nat)) (i n : Nat) (hi : i < P.length), fromOf P i ≤ n → n < fromOf P (i + 1) → who P n = P[i].1
  | (f, ws) :: P, 0, n, _, h1, h2 => by
    have : fromOf ((f, ws) :: P) 1 = ws.length := by simp [fromOf, flat]
    simp only [Nat.zero_add] at h2
    rw [this] at h2
    simp [who, h2]
  | (f, ws) :: P, i + 1, n, hi, h1, h2 => by
    have e : ∀ i, fromOf ((f, ws) :: P) (i + 1) = ws.length + fromOf P i := by intro i; simp [fromOf, flat]
    rw [e] at h1 h2
    have : ¬ n < ws.length := by omega
    simp only [who, if_neg this, List.getElem_cons_succ]
    exact who_at P i (n - ws.length) (by simpa using hi) (by omega) (by omega)

/-- what is found at an address -/
def found (P : List (Nat × List Nat)) (a : Nat) : Option Nat := if 4294967296 ≤ a ∧ a % 4 = 0 ∧ a < adr (flat P).length then some (who P ((a - 4294967296) / 4)) else none

end Go.Proofs.Ytpgmfifieilhkaa

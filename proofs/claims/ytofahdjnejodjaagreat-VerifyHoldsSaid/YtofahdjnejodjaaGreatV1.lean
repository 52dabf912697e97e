/- verify's questions about an instruction (law12). -/
import Derived.Test.YtofahdjnejodjaaGreatMC
import Derived.Test.YtofahdjnejodjaaGreatS12
set_option linter.unusedSimpArgs false
set_option linter.unusedVariables false
set_option linter.unusedSectionVars false
set_option linter.unnecessarySimpa false
namespace Go.Proofs.YtofahdjnejodjaaGreat
open Go.RowKit Go.Flow Go.Sure

attribute [local go_sem] Program.isFuncB Program.isSliceB

variable {w w' w'' w0 : World}

def fxNil : Fx := ⟨0, 0, 0, []⟩
/-- what is wrong with an instruction -/
def insCk (m : Mx) (i : Ix) : Int :=
  if i.o = 28 ∧ (m.f.length : Int) ≤ i.N then 13
  else if i.o = 28 ∧ (i.l.length : Int) ≠ (m.f.getD i.N.toNat fxNil).p then 2
  else if i.o = 24 ∧ (m.d.length : Int) < i.N then 5 else 0
def askV (n k : Nat) (da fa ua : Option Addr) (dc fc uc : Nat) (o A B C N : Int) (l : Nat) : Value :=
  .agg #[.slice da n dc, .slice fa k fc, .int .i64 o, .int .i64 A, .int .i64 B, .int .i64 C, .int .i64 N, .slice ua l uc]

theorem there_ok (w : World) (n k l : Nat) (da fa ua : Option Addr) (dc fc uc : Nat) (o A B C N : Int) :
    Calls Tryz.prog 101 #[askV n k da fa ua dc fc uc o A B C N l] w fun e w' => e = .returned (.int .i64 (if o = 28 ∧ (k : Int) ≤ N then 13 else 0)) ∧ Fr no w w' := by
  unfold askV
  have R := Lib.hid ((Fr.refl no w).alloc (.cells #[.slice da n dc, .slice fa k fc, .int .i64 o, .int .i64 A, .int .i64 B, .int .i64 C, .int .i64 N, .slice ua l uc] 115))
  by_cases ho : o = 28
  · subst ho
    by_cases hk : (k : Int) ≤ N
    · rw [if_pos ⟨rfl, hk⟩]
      go_enter Tryz.func101, Tryz.ntmps101
      go_wp2_with fail
      go_ret
      exact ⟨rfl, R.out⟩
    · rw [if_neg (fun h => hk h.2)]
      have hk' : ¬ N ≥ (k : Int) := hk
      go_enter Tryz.func101, Tryz.ntmps101
      go_wp2_with fail
      go_ret
      exact ⟨rfl, R.out⟩
  · rw [if_neg (fun h => ho h.1)]
    have e1 : (o == 28) = false := by simpa using ho
    clear ho
    go_enter Tryz.func101, Tryz.ntmps101
    go_wp2_with fail
    go_ret
    exact ⟨rfl, R.out⟩

theorem data_ok (w : World) (n k l : Nat) (da fa ua : Option Addr) (dc fc uc : Nat) (o A B C N : Int) :
    Calls Tryz.prog 103 #[askV n k da fa ua dc fc uc o A B C N l] w fun e w' => e = .returned (.int .i64 (if o = 24 ∧ (n : Int) < N then 5 else 0)) ∧ Fr no w w' := by
  unfold askV
  have R := Lib.hid ((Fr.refl no w).alloc (.cells #[.slice da n dc, .slice fa k fc, .int .i64 o, .int .i64 A, .int .i64 B, .int .i64 C, .int .i64 N, .slice ua l uc] 115))
  by_cases ho : o = 24
  · subst ho
    by_cases hk : (n : Int) < N
    · rw [if_pos ⟨rfl, hk⟩]
      go_enter Tryz.func103, Tryz.ntmps103
      go_wp2_with fail
      go_ret
      exact ⟨rfl, R.out⟩
    · rw [if_neg (fun h => hk h.2)]
      go_enter Tryz.func103, Tryz.ntmps103
      go_wp2_with fail
      go_ret
      exact ⟨rfl, R.out⟩
  · rw [if_neg (fun h => ho h.1)]
    have e1 : (o == 24) = false := by simpa using ho
    clear ho
    go_enter Tryz.func103, Tryz.ntmps103
    go_wp2_with fail
    go_ret
    exact ⟨rfl, R.out⟩

/-- the cell in which the N-th function's Params lie, if it is asked for -/
def ParAt (w : World) (fa : Option Addr) (N : Nat) (q : Int) : Prop := ∃ b o, fa = some ⟨b, o, none⟩ ∧ w.cell? ⟨b, o + N * 4, none⟩ = some (.int .i64 q)
theorem ParAt.fr {fa : Option Addr} {N : Nat} {q : Int} (h : ParAt w fa N q) (r : Fr no w w') : ParAt w' fa N q := by
  obtain ⟨b, o, h1, h2⟩ := h
  exact ⟨b, o, h1, r.cell h2 (by simp)⟩

theorem arity_ok (w : World) (n k l : Nat) (da fa ua : Option Addr) (dc fc uc : Nat) (o A B C N q : Int) (hq : o = 28 → 0 ≤ N ∧ N < k ∧ ParAt w fa N.toNat q) :
    Calls Tryz.prog 102 #[askV n k da fa ua dc fc uc o A B C N l] w fun e w' => e = .returned (.int .i64 (if o = 28 ∧ (l : Int) ≠ q then 2 else 0)) ∧ Fr no w w' := by
  unfold askV
  have R := Lib.hid ((Fr.refl no w).alloc (.cells #[.slice da n dc, .slice fa k fc, .int .i64 o, .int .i64 A, .int .i64 B, .int .i64 C, .int .i64 N, .slice ua l uc] 115))
  by_cases ho : o = 28
  · obtain ⟨h0, h1, h2⟩ := hq ho
    subst ho
    clear hq
    obtain ⟨b, of, rfl, hc⟩ := h2.fr R.out
    obtain ⟨z, rfl⟩ : ∃ z : Nat, N = z := ⟨N.toNat, by omega⟩
    rw [Int.toNat_natCast] at hc
    by_cases hk : (l : Int) = q
    · have e2 : ((l : Int) != q) = false := by simp [hk]
      rw [if_neg (fun h => h.2 hk)]
      clear hk h2
      go_enter Tryz.func102, Tryz.ntmps102
      go_upto_region 2 with fail
      go_quiet (fail)
      go_wp2_with fail
      go_ret
      exact ⟨rfl, R.out.drewN _⟩
    · have e2 : ((l : Int) != q) = true := by simp [hk]
      rw [if_pos ⟨rfl, hk⟩]
      clear hk h2
      go_enter Tryz.func102, Tryz.ntmps102
      go_upto_region 2 with fail
      go_quiet (fail)
      go_wp2_with fail
      go_ret
      exact ⟨rfl, R.out.drewN _⟩
  · rw [if_neg (fun h => ho h.1)]
    have e1 : (o == 28) = false := by simpa using ho
    clear ho hq
    go_enter Tryz.func102, Tryz.ntmps102
    go_upto_region 2 with fail
    go_quiet (fail)
    go_wp2_with fail
    go_ret
    exact ⟨rfl, R.out.drewN _⟩

theorem cells8 {b : Nat} {a0 a1 a2 a3 a4 a5 a6 a7 : Value} {t : TypeId} (h : w.heap[b]? = some (.cells #[a0, a1, a2, a3, a4, a5, a6, a7] t (0, 0))) :
    w.cell? ⟨b, 0, none⟩ = some a0 ∧ w.cell? ⟨b, 1, none⟩ = some a1 ∧ w.cell? ⟨b, 2, none⟩ = some a2 ∧ w.cell? ⟨b, 3, none⟩ = some a3 ∧ w.cell? ⟨b, 4, none⟩ = some a4 ∧ w.cell? ⟨b, 5, none⟩ = some a5 ∧ w.cell? ⟨b, 6, none⟩ = some a6 ∧ w.cell? ⟨b, 7, none⟩ = some a7 :=
  ⟨cell_of_heap h rfl, cell_of_heap h rfl, cell_of_heap h rfl, cell_of_heap h rfl, cell_of_heap h rfl, cell_of_heap h rfl, cell_of_heap h rfl, cell_of_heap h rfl⟩

set_option maxRecDepth 100000 in
set_option maxHeartbeats 4000000 in
theorem wrong_ok (w : World) (m : Mx) (i : Ix) (da fa ua : Option Addr) (dc fc uc : Nat) (hf : FnsIn w fa m.f) (h0 : i.o = 28 → 0 ≤ i.N) :
    Calls Tryz.prog 80 #[askV m.d.length m.f.length da fa ua dc fc uc i.o i.A i.B i.C i.N i.l.length] w fun e w' => e = .returned (.int .i64 (insCk m i)) ∧ Fr no w w' := by
  have HT := Lib.hid (fun w => there_ok w m.d.length m.f.length i.l.length da fa ua dc fc uc i.o i.A i.B i.C i.N)
  have HD := Lib.hid (fun w => data_ok w m.d.length m.f.length i.l.length da fa ua dc fc uc i.o i.A i.B i.C i.N)
  have HP : Hid (¬ (i.o = 28 ∧ (m.f.length : Int) ≤ i.N) → i.o = 28 → 0 ≤ i.N ∧ i.N < m.f.length ∧ ParAt w fa i.N.toNat (m.f.getD i.N.toNat fxNil).p) := Lib.hid (fun hn ho => by
    have h1 := h0 ho
    have h2 : ¬ (m.f.length : Int) ≤ i.N := fun h => hn ⟨ho, h⟩
    have h3 : i.N.toNat < m.f.length := by omega
    obtain ⟨b, o, ca, cc, rfl, hi⟩ := hf _ h3
    refine ⟨h1, by omega, b, o, rfl, ?_⟩
    rw [List.getD_eq_getElem?_getD, List.getElem?_eq_getElem h3]
    exact hi.four.1)
  have HCK : Hid (insCk m i = if i.o = 28 ∧ (m.f.length : Int) ≤ i.N then 13
    else if i.o = 28 ∧ (i.l.length : Int) ≠ (m.f.getD i.N.toNat fxNil).p then 2
    else if i.o = 24 ∧ (m.d.length : Int) < i.N then 5 else 0) := Lib.hid rfl
  generalize insCk m i = ck at *
  generalize (m.f.getD i.N.toNat fxNil).p = q at *
  have HA := Lib.hid (fun w2 (r : Fr no w w2) (hn : ¬ (i.o = 28 ∧ (m.f.length : Int) ≤ i.N)) => arity_ok w2 m.d.length m.f.length i.l.length da fa ua dc fc uc i.o i.A i.B i.C i.N q (fun ho => ⟨(HP.out hn ho).1, (HP.out hn ho).2.1, (HP.out hn ho).2.2.fr r⟩))
  clear hf h0 HP
  generalize m.d.length = n at *
  generalize m.f.length = k at *
  generalize i.l.length = l at *
  obtain ⟨o, A, B, C, N, il⟩ := i
  dsimp only at *
  unfold askV at *
  have HOB := Lib.hid (heap_new w (.cells #[.slice da n dc, .slice fa k fc, .int .i64 o, .int .i64 A, .int .i64 B, .int .i64 C, .int .i64 N, .slice ua l uc] 115))
  have r0 := (Fr.refl no w).alloc (.cells #[.slice da n dc, .slice fa k fc, .int .i64 o, .int .i64 A, .int .i64 B, .int .i64 C, .int .i64 N, .slice ua l uc] 115)
  go_enter Tryz.func80, Tryz.ntmps80
  go_wp2_with fail
  go_loopw [8] (fun x wr => ∃ t : Nat, x = .int .i64 t ∧ t ≤ 3 ∧ Hid (1 ≤ t → ¬ (o = 28 ∧ (k : Int) ≤ N)) ∧ Hid (2 ≤ t → ¬ (o = 28 ∧ (l : Int) ≠ q)) ∧ Hid (3 ≤ t → ¬ (o = 24 ∧ (n : Int) < N)) ∧
    Hid (wr.heap[w.heap.size]? = some (.cells #[.slice da n dc, .slice fa k fc, .int .i64 o, .int .i64 A, .int .i64 B, .int .i64 C, .int .i64 N, .slice ua l uc] 115 (0, 0))) ∧
    Hid (wr.heap[w.heap.size + 1]? = some (.cells #[.func (.func 101) #[] #[], .func (.func 102) #[] #[], .func (.func 103) #[] #[]] 113 (0, 0))) ∧ Hid (Fr no w wr)) (fun x _ => 3 - nOf x)
  case atStart =>
    have r1 := (Fr.refl no (w.alloc (.cells #[.slice da n dc, .slice fa k fc, .int .i64 o, .int .i64 A, .int .i64 B, .int .i64 C, .int .i64 N, .slice ua l uc] 115))).alloc (.cells #[.func (.func 101) #[] #[], .func (.func 102) #[] #[], .func (.func 103) #[] #[]] 113)
    exact ⟨0, rfl, by omega, Lib.hid (fun h => by omega), Lib.hid (fun h => by omega), Lib.hid (fun h => by omega), Lib.hid (r1.heap HOB.out (by simp)), Lib.hid (by
      have := heap_new (w.alloc (.cells #[.slice da n dc, .slice fa k fc, .int .i64 o, .int .i64 A, .int .i64 B, .int .i64 C, .int .i64 N, .slice ua l uc] 115)) (.cells #[.func (.func 101) #[] #[], .func (.func 102) #[] #[], .func (.func 103) #[] #[]] 113)
      simp only [World.size_alloc] at this
      exact this), Lib.hid (r0.trans r1)⟩
  case round =>
    clear HOB r0
    obtain ⟨t, rfl, ht, H1, H2, H3, HOB, HFU, HR⟩ := hrel
    have h4 : t = 0 ∨ t = 1 ∨ t = 2 ∨ t = 3 := by omega
    clear ht
    rcases h4 with rfl | rfl | rfl | rfl
    · have cf : wr.cell? ⟨w.heap.size + 1, 0, none⟩ = some (.func (.func 101) #[] #[]) := cell_of_heap HFU.out rfl
      obtain ⟨d0, d1, d2, d3, d4, d5, d6, d7⟩ := cells8 HOB.out
      go_wp2_with fail
      refine (HT.out _).mono ?_
      rintro e w3 ⟨rfl, r3⟩
      have HOB3 := Lib.hid (r3.heap HOB.out (by simp))
      have HFU3 := Lib.hid (r3.heap HFU.out (by simp))
      have R3 := Lib.hid (HR.out.trans r3)
      clear r3 d0 d1 d2 d3 d4 d5 d6 d7 cf HOB HFU HR
      by_cases hh : o = 28 ∧ (k : Int) ≤ N
      · rw [if_pos hh]
        have HV : Hid (ck = 13) := Lib.hid (by rw [HCK.out, if_pos hh])
        clear hh
        go_wp2_with fail
        go_ret
        exact ⟨by rw [HV.out]; rfl, R3.out⟩
      · rw [if_neg hh]
        have HH := Lib.hid hh
        clear hh
        go_wp2_with fail
        go_roundw
        case rel => exact ⟨1, rfl, by omega, Lib.hid (fun _ => HH.out), Lib.hid (fun h => by omega), Lib.hid (fun h => by omega), HOB3, HFU3, R3⟩
        case measure => simp [nOf]
    · have cf : wr.cell? ⟨w.heap.size + 1, 1, none⟩ = some (.func (.func 102) #[] #[]) := cell_of_heap HFU.out rfl
      obtain ⟨d0, d1, d2, d3, d4, d5, d6, d7⟩ := cells8 HOB.out
      go_wp2_with fail
      refine (HA.out _ HR.out (H1.out (by omega))).mono ?_
      rintro e w3 ⟨rfl, r3⟩
      have HOB3 := Lib.hid (r3.heap HOB.out (by simp))
      have HFU3 := Lib.hid (r3.heap HFU.out (by simp))
      have R3 := Lib.hid (HR.out.trans r3)
      clear r3 d0 d1 d2 d3 d4 d5 d6 d7 cf HOB HFU HR
      by_cases hh : o = 28 ∧ (l : Int) ≠ q
      · rw [if_pos hh]
        have HV : Hid (ck = 2) := Lib.hid (by rw [HCK.out, if_neg (H1.out (by omega)), if_pos hh])
        clear hh
        go_wp2_with fail
        go_ret
        exact ⟨by rw [HV.out]; rfl, R3.out⟩
      · rw [if_neg hh]
        have HH := Lib.hid hh
        clear hh
        go_wp2_with fail
        go_roundw
        case rel => exact ⟨2, rfl, by omega, Lib.hid (fun _ => H1.out (by omega)), Lib.hid (fun _ => HH.out), Lib.hid (fun h => by omega), HOB3, HFU3, R3⟩
        case measure => simp [nOf]
    · have cf : wr.cell? ⟨w.heap.size + 1, 2, none⟩ = some (.func (.func 103) #[] #[]) := cell_of_heap HFU.out rfl
      obtain ⟨d0, d1, d2, d3, d4, d5, d6, d7⟩ := cells8 HOB.out
      go_wp2_with fail
      refine (HD.out _).mono ?_
      rintro e w3 ⟨rfl, r3⟩
      have HOB3 := Lib.hid (r3.heap HOB.out (by simp))
      have HFU3 := Lib.hid (r3.heap HFU.out (by simp))
      have R3 := Lib.hid (HR.out.trans r3)
      clear r3 d0 d1 d2 d3 d4 d5 d6 d7 cf HOB HFU HR
      by_cases hh : o = 24 ∧ (n : Int) < N
      · rw [if_pos hh]
        have HV : Hid (ck = 5) := Lib.hid (by rw [HCK.out, if_neg (H1.out (by omega)), if_neg (H2.out (by omega)), if_pos hh])
        clear hh
        go_wp2_with fail
        go_ret
        exact ⟨by rw [HV.out]; rfl, R3.out⟩
      · rw [if_neg hh]
        have HH := Lib.hid hh
        clear hh
        go_wp2_with fail
        go_roundw
        case rel => exact ⟨3, rfl, by omega, Lib.hid (fun _ => H1.out (by omega)), Lib.hid (fun _ => H2.out (by omega)), Lib.hid (fun _ => HH.out), HOB3, HFU3, R3⟩
        case measure => simp [nOf]
    · have HV : Hid (ck = 0) := Lib.hid (by rw [HCK.out, if_neg (H1.out (by omega)), if_neg (H2.out (by omega)), if_neg (H3.out (by omega))])
      go_wp2_with fail
      go_ret
      exact ⟨by rw [HV.out]; rfl, HR.out⟩

end Go.Proofs.YtofahdjnejodjaaGreat

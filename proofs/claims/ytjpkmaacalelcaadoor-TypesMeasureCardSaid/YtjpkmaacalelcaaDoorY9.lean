/- A type's measure; a struct's (law24). -/
import Derived.Test.YtjpkmaacalelcaaDoorY8
set_option linter.unusedSimpArgs false
set_option linter.unusedVariables false
set_option linter.unusedSectionVars false
set_option linter.unnecessarySimpa false
namespace Go.Proofs.YtjpkmaacalelcaaDoor
open Go.RowKit Go.Ty Go.Deep

attribute [local go_sem] Program.isFuncB Program.isSliceB

variable {w w' w'' w0 : World}

set_option maxRecDepth 100000 in
set_option maxHeartbeats 4000000 in
theorem of_ok (l : List St) (n : Nat) (HW : WholeOk l n) (t : Ty) (ht : 0 ≤ t.b ∧ t.b ≤ 9) (w : World) (sa ma : Option Addr) (sc mc : Nat)
    (hms : t.ms.all modB = true) (hlen : t.ms.length ≤ 1000) (hin : insideB t = true → 0 ≤ t.s ∧ t.s < n) (hs : SlIn w sa l) (hm : TIn w ma mc t.ms) :
    Calls Tryd.prog 36 #[.slice sa l.length sc, .agg #[.int .i64 t.b, .int .i64 t.s, .slice ma t.ms.length mc]] w
      fun e w' => e = .returned (meas (ofM (whole l) t)) ∧ Fr no w w' := by
  obtain ⟨tb, ts, tm⟩ := t
  dsimp only at *
  have HS := Lib.hid hs
  have HM := Lib.hid hm
  have HI := Lib.hid (fun (h9 : tb = 9) (hc : tm.contains (-1) = false) => hin (by unfold insideB; dsimp only; rw [hc, h9]; rfl))
  have HMS := Lib.hid hms
  have HC := Lib.hid (fun TB LB FB w4 => mods_ok l n HW ⟨tb, ts, tm⟩ ht TB LB FB sa ma sc tm.length mc tm hms hlen HI.out w4 ma mc)
  have HO : ofM (whole l) ⟨tb, ts, tm⟩ = modsM (baseM (whole l) ⟨tb, ts, tm⟩) tm := rfl
  rw [HO]
  clear HO
  generalize modsM (baseM (whole l) ⟨tb, ts, tm⟩) tm = x at *
  unfold meas at *
  clear hs hm hin hms HI HMS
  go_enter Tryd.func36, Tryd.ntmps36
  go_wp2_with fail
  have q1 := (Fr.refl no w).alloc (.cells #[.slice sa l.length sc] 22)
  have h1 := heap_new w (.cells #[.slice sa l.length sc] 22)
  have z1 := World.size_alloc w (.cells #[.slice sa l.length sc] 22)
  generalize w.alloc (.cells #[.slice sa l.length sc] 22) = w1 at *
  have r2 := (Fr.refl no w1).alloc (.cells #[.int .i64 tb, .int .i64 ts, .slice ma tm.length mc] 25)
  have h2 := heap_new w1 (.cells #[.int .i64 tb, .int .i64 ts, .slice ma tm.length mc] 25)
  have z2 := World.size_alloc w1 (.cells #[.int .i64 tb, .int .i64 ts, .slice ma tm.length mc] 25)
  generalize w1.alloc (.cells #[.int .i64 tb, .int .i64 ts, .slice ma tm.length mc] 25) = w2 at *
  have r3 := (Fr.refl no w2).alloc (.cells #[.int .i64 0, .int .i64 0] 60)
  have h3 := heap_new w2 (.cells #[.int .i64 0, .int .i64 0] 60)
  have z3 := World.size_alloc w2 (.cells #[.int .i64 0, .int .i64 0] 60)
  generalize w2.alloc (.cells #[.int .i64 0, .int .i64 0] 60) = w3 at *
  have z2' : w2.heap.size = w.heap.size + 1 + 1 := by omega
  have z3' : w3.heap.size = w.heap.size + 1 + 1 + 1 := by omega
  rw [← z3', ← z2', ← z1]
  obtain ⟨LB, hLB⟩ : ∃ b, b = w.heap.size := ⟨_, rfl⟩
  obtain ⟨TB, hTB⟩ : ∃ b, b = w1.heap.size := ⟨_, rfl⟩
  obtain ⟨RB, hRB⟩ : ∃ b, b = w2.heap.size := ⟨_, rfl⟩
  obtain ⟨FB, hFB⟩ : ∃ b, b = w3.heap.size := ⟨_, rfl⟩
  have r4 := (Fr.refl no w3).alloc (.cells #[.func (.func 57) #[] (modsCaps TB LB FB)] 82)
  have h4 := heap_new w3 (.cells #[.func (.func 57) #[] (modsCaps TB LB FB)] 82)
  have r34 := r3.trans r4
  have HT4 := Lib.hid ((r2.heap h1 (by simp)))
  have HL4 := Lib.hid (r34.heap (r2.heap h1 (by simp)) (by simp))
  have HT4 := Lib.hid (r34.heap h2 (by simp))
  have HR4 := Lib.hid (r4.heap h3 (by simp))
  have HF4 := Lib.hid h4
  have R4 := Lib.hid ((q1.trans r2).trans r34)
  rw [← hFB] at HF4
  rw [← hLB] at HL4
  rw [← hTB] at HT4
  rw [← hRB] at HR4
  rw [← hLB, ← hTB, ← hRB, ← hFB]
  unfold modsCaps at *
  clear h1 h2 h3 h4 r2 r3 r4 r34
  generalize w3.alloc (.cells #[.func (.func 57) #[] #[.pointer (some ⟨TB, 0, none⟩), .pointer (some ⟨LB, 0, none⟩), .pointer (some ⟨FB, 0, none⟩)]] 82) = w4 at *
  refine (HC.out TB LB FB w4 (HM.out.fr R4.out) (HS.out.fr R4.out) HT4.out HL4.out HF4.out).mono ?_
  rintro e w5 ⟨rfl, r5⟩
  have HR5 := Lib.hid (r5.heap HR4.out (by simp))
  have R5 := Lib.hid (R4.out.trans r5)
  have HZ : Hid (w.heap.size ≤ RB) := Lib.hid (by omega)
  clear r5 hLB hTB hRB hFB z1 z2 z3 z2' z3' HM HS HC
  go_wp2_with (refine wpList_store_row rfl 60 (.tmp 4) (.tmp 10) rfl RB #[.int .i64 x.1, .int .i64 x.2] rfl rfl _ _ HR5.out (by rw [infoMeas]; rfl) rfl (by simp [Value.oneCell']) ?_; rw [act_put_none])
  refine bodyPost_ret (results_cell rfl rfl (load_meas _ _ _ _ (setRow_heap _ _ _ _ _ _ HR5.out))) rfl ?_
  exact ⟨rfl, R5.out.trans' (fr_setRow (g := RB) (cs := #[.int .i64 x.1, .int .i64 x.2]) (Fr.refl (only [RB]) w5) (.inl (by simp))) (fun k hk _ => by have := HZ.out; simp at hk; omega)⟩

end Go.Proofs.YtjpkmaacalelcaaDoor

/- A struct's measure (law24). -/
import Derived.Test.YtjpkmaacalelcaaDoorY10
set_option linter.unusedSimpArgs false
set_option linter.unusedVariables false
set_option linter.unusedSectionVars false
set_option linter.unnecessarySimpa false
set_option maxRecDepth 100000
namespace Go.Proofs.YtjpkmaacalelcaaDoor
open Go.RowKit Go.Ty Go.Deep

attribute [local go_sem] Program.isFuncB Program.isSliceB

variable {w w' w'' w0 : World}

set_option maxRecDepth 100000 in
theorem whole1_ok (l : List St) (hl : Sound l) (s : Nat) (hsl : s < l.length) (HW : WholeOk l s) (w : World) (sa : Option Addr) (sc : Nat) (hs : SlIn w sa l) :
    Calls Tryd.prog 42 #[.slice sa l.length sc, .int .i64 s] w fun e w' => e = .returned (meas (whole l s)) ∧ Fr no w w' := by
  have r0 := (Fr.refl no w).alloc (.cells #[.int .i64 0, .int .i64 0] 60)
  have HR0 := Lib.hid (heap_new w (.cells #[.int .i64 0, .int .i64 0] 60))
  have HC := Lib.hid (lay_ok l hl s hsl HW _ sa sc (hs.fr r0))
  have R0 := Lib.hid r0
  generalize whole l s = ws at *
  obtain ⟨s1, s2⟩ := ws
  unfold meas at *
  dsimp only at *
  clear r0 hs
  go_enter Tryd.func42, Tryd.ntmps42
  go_wp2_with fail
  refine HC.out.mono ?_
  rintro e w2 ⟨pv, rfl, -, r2⟩
  have HR2 := Lib.hid (r2.heap HR0.out (by simp))
  have R2 := Lib.hid (R0.out.trans r2)
  have HB := Lib.hid (heap_new w2 (.cells #[.int .i64 0, .int .i64 0] 60))
  have HB1 := Lib.hid (setRow_heap _ _ _ #[.int .i64 s1, .int .i64 s2] _ _ HB.out)
  have r3 : Fr no w2 ((w2.alloc (.cells #[.int .i64 0, .int .i64 0] 60)).setRow w2.heap.size #[.int .i64 s1, .int .i64 s2]) := fr_setRow ((Fr.refl no w2).alloc _) (.inr (Nat.le_refl _))
  have HR3 := Lib.hid (r3.heap HR2.out (by simp))
  have R3 := Lib.hid (R2.out.trans r3)
  clear r3 r2
  go_upto_region 2 with (refine wpList_store_row rfl 60 (.tmp 6) (.tmp 12) rfl w2.heap.size #[.int .i64 s1, .int .i64 s2] rfl rfl _ _ HB.out (by rw [infoMeas]; rfl) rfl (by simp [Value.oneCell']) ?_; rw [act_put_none])
  generalize (w2.alloc (.cells #[.int .i64 0, .int .i64 0] 60)).setRow w2.heap.size #[.int .i64 s1, .int .i64 s2] = w3 at *
  generalize w2.heap.size = MB at *
  go_wp2_with (first
    | (refine wpList_load_row rfl 60 (.tmp 6) rfl MB rfl _ _ _ _ HB1.out Tryd.underlying60 rfl (by rw [infoMeas]; rfl) ?_; simp only [Act.put, List.setIfInBounds_toArray, List.set_cons_zero, List.set_cons_succ])
    | (refine wpList_store_row rfl 60 (.tmp 4) (.tmp 13) rfl w.heap.size #[.int .i64 s1, .int .i64 s2] rfl rfl _ _ HR3.out (by rw [infoMeas]; rfl) rfl (by simp [Value.oneCell']) ?_; rw [act_put_none]))
  refine bodyPost_ret (results_cell rfl rfl (load_meas _ _ _ _ (setRow_heap _ _ _ _ _ _ HR3.out))) rfl ?_
  exact ⟨rfl, R3.out.trans' (fr_setRow (g := w.heap.size) (cs := #[.int .i64 s1, .int .i64 s2]) (Fr.refl (only [w.heap.size]) w3) (.inl (by simp))) (fun k hk _ => by simp at hk; omega)⟩

theorem wholeOk (l : List St) (hl : Sound l) : ∀ n, n ≤ l.length → WholeOk l n
  | 0, _ => fun _ _ _ _ h => absurd h (Nat.not_lt_zero _)
  | n + 1, hn => fun w sa sc i hi hs => by
    have ih := wholeOk l hl n (by omega)
    rcases Nat.lt_or_ge i n with h | h
    · exact ih w sa sc i h hs
    · obtain rfl : i = n := by omega
      exact whole1_ok l hl i (by omega) ih w sa sc hs
theorem lay_all (l : List St) (hl : Sound l) (s : Nat) (hsl : s < l.length) (w : World) (sa : Option Addr) (sc : Nat) (hs : SlIn w sa l) :
    Calls Tryd.prog 50 #[.slice sa l.length sc, .int .i64 s] w fun e w' => ∃ pv, e = .returned (.tuple #[pv, meas (whole l s)]) ∧
      w'.ownsRow w.heap.size 3 1 pv (fieldsAt l s).length (natsI (layM (whole l) (fieldsAt l s)).1) ∧ Fr no w w' := lay_ok l hl s hsl (wholeOk l hl s (Nat.le_of_lt hsl)) w sa sc hs
theorem of_all (l : List St) (hl : Sound l) (t : Ty) (ht : shapedB l.length t = true) (w : World) (sa ma : Option Addr) (sc mc : Nat) (hs : SlIn w sa l) (hm : TIn w ma mc t.ms) :
    Calls Tryd.prog 36 #[.slice sa l.length sc, .agg #[.int .i64 t.b, .int .i64 t.s, .slice ma t.ms.length mc]] w
      fun e w' => e = .returned (meas (ofM (whole l) t)) ∧ Fr no w w' := by
  obtain ⟨h1, h2, h3, -, -, h6⟩ := shaped_iff.1 ht
  exact of_ok l l.length (wholeOk l hl _ (Nat.le_refl _)) t h1 w sa ma sc mc h6 (by omega) (fun h => h3 (by unfold insideB at h; rw [Bool.and_eq_true] at h; simpa using h.1)) hs hm

end Go.Proofs.YtjpkmaacalelcaaDoor

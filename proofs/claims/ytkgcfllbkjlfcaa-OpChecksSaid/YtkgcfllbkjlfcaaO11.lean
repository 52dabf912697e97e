import Derived.Test.YtkgcfllbkjlfcaaO10
namespace Go.Proofs.Ytkgcfllbkjlfcaa
open Go.RowKit

attribute [local go_sem] Program.isFuncB Program.isSliceB

variable {w w' w'' w0 : World}

def readsOf (o A B C : Int) (l : List Int) : List Int := (fieldsOf [A, B, C] (sh o)).2.1 ++ (if hasB (sh o) 108 then l else [])

theorem fields_few (o A B C : Int) : (fieldsOf [A, B, C] (sh o)).1.length ≤ 3 ∧ (fieldsOf [A, B, C] (sh o)).2.1.length ≤ 3 := by
  have h := fieldsOf_len [A, B, C] (sh o).length (sh o) rfl
  have h2 : (sh o).length ≤ 3 := by unfold sh; rw [blen]; exact (shape_ok o).size
  omega

set_option maxHeartbeats 2000000 in
theorem reads_ok (w : World) (o A B C N : Int) (u : Value) (l : List Int) (hu : Reads w u 1 l.length (ints l)) (hl : l.length ≤ 100000) :
    Calls Try.prog 18 #[insV o A B C N u] w fun e w' => ∃ v, e = .returned v ∧ w'.ownsRow w.heap.size 3 1 v (readsOf o A B C l).length (ints (readsOf o A B C l)) ∧ Fr no w w' := by
  obtain ⟨ua, uc, rfl⟩ := hu.shape
  have HI := Lib.hid (fun w => is_all w o)
  have HF := Lib.hid (fun w => fields_ok w o A B C N (.slice ua l.length uc))
  have HSH := Lib.hid (fun w => shape_all w o)
  have HC := Lib.hid (fun w => Try.strings_Contains_one (shapeI o) 108 w)
  have HFEW := Lib.hid (fields_few o A B C).2
  have hno : ¬ (0 ≤ o ∧ o < 33) → readsOf o A B C l = [] := by
    intro h
    have : shapeI o = ⟨#[]⟩ := by unfold shapeI; rw [if_neg h]
    unfold readsOf sh
    rw [this]
    rfl
  have HNO := Lib.hid hno
  have HRD : Hid (readsOf o A B C l = (fieldsOf [A, B, C] (shapeI o).data.toList).2.1 ++ (if decide (0 ≤ Lib.indexByte (shapeI o).data.toList 108) = true then l else [])) := Lib.hid rfl
  have HOB := Lib.hid (insObj w o A B C N (.slice ua l.length uc))
  have HU := Lib.hid hu
  clear hno hu
  unfold sh at HFEW
  generalize hf : fieldsOf [A, B, C] (shapeI o).data.toList = f at *
  generalize shapeI o = s at *
  generalize decide (0 ≤ Lib.indexByte s.data.toList 108) = b at *
  clear hf
  have R0 : Hid (Fr no w (w.alloc (.cells #[.int .i64 o, .int .i64 A, .int .i64 B, .int .i64 C, .int .i64 N, .slice ua l.length uc] 30))) := Lib.hid ((Fr.refl no w).alloc _)
  by_cases his : 0 ≤ o ∧ o < 33
  · have hd : Hid (decide (0 ≤ o ∧ o < 33) = true) := Lib.hid (decide_eq_true his)
    rw [hd.out] at HI
    unfold insV at *
    clear his
    go_enter Try.func18, Try.ntmps18
    go_wp2_with fail
    refine (HI.out _).mono ?_
    rintro e w' ⟨rfl, rfl⟩
    go_wp2_with fail
    refine (HF.out _).mono ?_
    rintro e w1 ⟨x, y, rfl, r1, -, hy, -⟩
    have hs0 : (w.alloc (.cells #[.int .i64 o, .int .i64 A, .int .i64 B, .int .i64 C, .int .i64 N, .slice ua l.length uc] 30)).heap.size = w.heap.size + 1 := World.size_alloc _ _
    have hob1 := r1.heap HOB.out (by simp)
    have R1 := Lib.hid (R0.out.trans r1)
    have HY := Lib.hid (owns_base hy (base' := w.heap.size) (fun k hk => by have := (hy.lt k hk).1; omega))
    have c0 : w1.cell? ⟨w.heap.size, 0, none⟩ = some (.int .i64 o) := cell_of_heap hob1 rfl
    have HOB1 := Lib.hid hob1
    clear r1 hy hob1 hs0
    go_wp2_with fail
    refine (HSH.out _).mono ?_
    rintro e w2 ⟨rfl, r2⟩
    have c5 : w2.cell? ⟨w.heap.size, 5, none⟩ = some (.slice ua l.length uc) := cell_of_heap (r2.heap HOB1.out (by simp)) rfl
    have R2 := Lib.hid (R1.out.trans r2)
    have HY2 := Lib.hid (owns_fr HY.out r2 (by simp))
    clear r2 c0
    go_wp2_with fail
    refine (HC.out _).mono ?_
    rintro e w' ⟨rfl, rfl⟩
    cases b with
    | false =>
      go_wp2_with fail
      go_ret
      refine ⟨_, rfl, ?_, R2.out⟩
      rw [HRD.out, if_neg (by simp), List.append_nil]
      exact HY2.out
    | true =>
      obtain ⟨ya, yc, rfl⟩ := owns_shape HY2.out
      go_wp2_with fail
      have r3 : Fr no w' (w'.alloc (.cells #[.slice ya f.2.1.length yc, .slice ua l.length uc] 28)) := (Fr.refl no w').alloc _
      refine (concat2 _ w'.heap.size _ _ f.2.1 l (heap_new w' _) ((owns_reads HY2.out).fr r3 (by simp)) (((HU.out.fr R2.out (by simp))).fr r3 (by simp)) (by have := HFEW.out; omega) hl).mono ?_
      rintro e w4 ⟨v, rfl, hv, r4⟩
      have HV := Lib.hid (owns_base hv (base' := w.heap.size) (fun k hk => by have h1 := (hv.lt k hk).1; have h2 := R2.out.size; simp at h1; omega))
      have R4 := Lib.hid ((R2.out.trans r3).trans r4)
      clear hv r4 r3
      go_wp2_with fail
      go_ret
      refine ⟨_, rfl, ?_, R4.out⟩
      rw [HRD.out]
      simp only [↓reduceIte]
      exact HV.out
  · have hd : Hid (decide (0 ≤ o ∧ o < 33) = false) := Lib.hid (decide_eq_false his)
    rw [hd.out] at HI
    rw [HNO.out his]
    unfold insV at *
    clear his
    go_enter Try.func18, Try.ntmps18
    go_wp2_with fail
    refine (HI.out _).mono ?_
    rintro e w' ⟨rfl, rfl⟩
    go_wp2_with fail
    go_ret
    exact ⟨_, rfl, World.ownsRow_nil _ _ _ _, R0.out⟩

end Go.Proofs.Ytkgcfllbkjlfcaa

/- The document's Writes and Reads (law11). -/
import Derived.Test.YtofahdjnejodjaaGreatZb
import Derived.Test.YtofahdjnejodjaaGreatS10
set_option linter.unusedSimpArgs false
set_option linter.unusedVariables false
set_option linter.unusedSectionVars false
set_option linter.unnecessarySimpa false
namespace Go.Proofs.YtofahdjnejodjaaGreat
open Go.RowKit Go.Flow Go.Sure

attribute [local go_sem] Program.isFuncB Program.isSliceB

variable {w w' w'' w0 : World}

theorem regs_one (A B C : Int) : ∀ (n : Nat) (s : List UInt8), s.length = n → (regSt [A, B, C] [119] s).2 = (fieldsOf [A, B, C] s).1.length ∧
    (s.count 119 = 0 → (regSt [A, B, C] [119] s).1 = [] ∧ (fieldsOf [A, B, C] s).2.2 = -1) ∧ (s.count 119 = 1 → (regSt [A, B, C] [119] s).1 = [(fieldsOf [A, B, C] s).2.2]) := by
  intro n
  induction n with
  | zero => intro s h; rw [List.length_eq_zero_iff.1 h]; exact ⟨rfl, fun _ => ⟨rfl, rfl⟩, fun h => by simp at h⟩
  | succ n ih =>
    intro s h
    have hne : s ≠ [] := by rintro rfl; simp at h
    rw [← List.dropLast_concat_getLast hne, regSt_snoc, fieldsOf_snoc, count_snoc]
    obtain ⟨h1, h2, h3⟩ := ih s.dropLast (by simp [h])
    generalize s.dropLast = d at *
    generalize s.getLast hne = c at *
    have t9 : hasN [119] [119] = 1 := by decide
    have t4 : hasN [119] [114] = 0 := by decide
    unfold stepR stepF
    by_cases hc : c = 119
    · subst hc
      simp only [t9]
      refine ⟨by simp [h1], fun h0 => by simp at h0, fun h0 => ?_⟩
      have : d.count 119 = 0 := by simpa using h0
      simp [(h2 this).1, h1]
    · by_cases hr : c = 114
      · subst hr
        simp [t4, h1]
        exact ⟨h2, h3⟩
      · have hc' : ¬ 119 = c := fun h => hc h.symm
        simp [hc, hc', hr, h1]
        exact ⟨h2, h3⟩
theorem one_w (o : Int) : (sh o).count 119 ≤ 1 := by
  unfold sh shapeI
  split
  · rename_i h
    have h2 : ((List.range 33).all fun n => decide ((shapeOf n).data.toList.count 119 ≤ 1)) = true := by kernel_rfl
    have := List.all_eq_true.1 h2 o.toNat (List.mem_range.2 (by omega))
    simpa using this
  · simp
theorem regs_w (o A B C : Int) : (regsOf [A, B, C] [119] (sh o) = [] ∧ (fieldsOf [A, B, C] (sh o)).2.2 = -1) ∨ regsOf [A, B, C] [119] (sh o) = [(fieldsOf [A, B, C] (sh o)).2.2] := by
  obtain ⟨-, h0, h1⟩ := regs_one A B C _ (sh o) rfl
  have := one_w o
  by_cases h : (sh o).count 119 = 0
  · exact .inl (h0 h)
  · exact .inr (h1 (by omega))

theorem refwrites_ok (w : World) (o A B C N : Int) (args : Value) : Calls Tryz.prog 75 #[insV o A B C N args] w fun e w' => e = .returned (.int .i64 (fieldsOf [A, B, C] (sh o)).2.2) ∧ Fr no w w' := by
  have HR := Lib.hid (fun w => refregs_ok w o A B C N args ⟨#[119]⟩ (by decide))
  have hw := regs_w o A B C
  change Hid (∀ w, Calls Tryz.prog 76 #[insV o A B C N args, .string ⟨#[119]⟩] w fun e w' => ∃ v, e = .returned v ∧ Fr no w w' ∧
      w'.ownsRow w.heap.size 3 1 v (regsOf [A, B, C] [119] (sh o)).length (ints (regsOf [A, B, C] [119] (sh o)))) at HR
  generalize regsOf [A, B, C] [119] (sh o) = rs at *
  generalize (fieldsOf [A, B, C] (sh o)).2.2 = x at *
  have HOB := Lib.hid (insObj w o A B C N args)
  have R0 := Lib.hid ((Fr.refl no w).alloc (.cells #[.int .i64 o, .int .i64 A, .int .i64 B, .int .i64 C, .int .i64 N, args] 47))
  unfold insV at *
  go_enter Tryz.func75, Tryz.ntmps75
  rcases hw with ⟨rfl, rfl⟩ | rfl
  · go_wp2_with fail
    refine (HR.out _).mono ?_
    rintro e w1 ⟨v, rfl, r1, hv⟩
    have R1 := Lib.hid (R0.out.trans r1)
    obtain ⟨va, vc, rfl⟩ := owns_shape hv
    clear r1 hv
    go_wp2_with fail
    go_ret
    exact ⟨rfl, R1.out⟩
  · go_wp2_with fail
    refine (HR.out _).mono ?_
    rintro e w1 ⟨v, rfl, r1, hv⟩
    have R1 := Lib.hid (R0.out.trans r1)
    obtain ⟨va, vc, rfl⟩ := owns_shape hv
    obtain ⟨vb, vo, rfl, cv⟩ := (owns_reads hv).at1 (k := 0) (u := .int .i64 x) rfl
    rw [Nat.add_zero] at cv
    have e1 : (([x].length : Nat) : Int) = 1 := rfl
    clear r1 hv
    go_wp2_with fail
    go_ret
    exact ⟨rfl, R1.out⟩

theorem has108 (o : Int) : decide ((0 : Int) < (hasN (sh o) [108] : Nat)) = hasB (sh o) 108 := by
  rw [← (sh_facts o).2.2.1]
  congr 1
  simp

set_option maxHeartbeats 2000000 in
theorem refreads_ok (w : World) (o A B C N : Int) (u : Value) (l : List Int) (hu : Reads w u 1 l.length (ints l)) (hl : l.length ≤ 100000) :
    Calls Tryz.prog 45 #[insV o A B C N u] w fun e w' => ∃ v, e = .returned v ∧ w'.ownsRow w.heap.size 3 1 v (readsOf o A B C l).length (ints (readsOf o A B C l)) ∧ Fr no w w' := by
  obtain ⟨ua, uc, rfl⟩ := hu.shape
  have HR := Lib.hid (fun w => refregs_ok w o A B C N (.slice ua l.length uc) ⟨#[114]⟩ (by decide))
  change Hid (∀ w, Calls Tryz.prog 76 #[insV o A B C N (.slice ua l.length uc), .string ⟨#[114]⟩] w fun e w' => ∃ v, e = .returned v ∧ Fr no w w' ∧
      w'.ownsRow w.heap.size 3 1 v (regsOf [A, B, C] [114] (sh o)).length (ints (regsOf [A, B, C] [114] (sh o)))) at HR
  have hre : regsOf [A, B, C] [114] (sh o) = (fieldsOf [A, B, C] (sh o)).2.1 := by unfold regsOf; rw [(regs_fields A B C (sh o)).2]
  rw [hre] at HR
  clear hre
  have HFEW := Lib.hid (fields_few o A B C).2
  have HSH := Lib.hid (fun w => refshape_all w o)
  have hsz : (shapeI o).size ≤ 3 := (shape_ok o).size
  have HC := Lib.hid (fun w => has_ok w (shapeI o) ⟨#[108]⟩ (by omega) (by decide))
  have HT := Lib.hid (has108 o)
  have HRD : Hid (readsOf o A B C l = (fieldsOf [A, B, C] (sh o)).2.1 ++ (if hasB (sh o) 108 = true then l else [])) := Lib.hid rfl
  have HU := Lib.hid hu
  have HOB := Lib.hid (insObj w o A B C N (.slice ua l.length uc))
  have R0 := Lib.hid ((Fr.refl no w).alloc (.cells #[.int .i64 o, .int .i64 A, .int .i64 B, .int .i64 C, .int .i64 N, .slice ua l.length uc] 47))
  generalize readsOf o A B C l = rd at *
  unfold sh at *
  generalize (fieldsOf [A, B, C] (shapeI o).data.toList).2.1 = f at *
  generalize shapeI o = s at *
  change Hid (decide ((0 : Int) < (hasN s.data.toList [108] : Nat)) = hasB s.data.toList 108) at HT
  change Hid (∀ w, Calls Tryz.prog 77 #[.string s, .string ⟨#[108]⟩] w fun e w' => e = .returned (.int .i64 (hasN s.data.toList [108] : Nat)) ∧ ∃ q, w' = w.drewN q) at HC
  generalize hasN s.data.toList [108] = n at *
  generalize hasB s.data.toList 108 = b at *
  clear hsz hu
  unfold insV at *
  go_enter Tryz.func45, Tryz.ntmps45
  go_wp2_with fail
  refine (HR.out _).mono ?_
  rintro e w1 ⟨v, rfl, r1, hv⟩
  obtain ⟨va, vc, rfl⟩ := owns_shape hv
  have hs0 : (w.alloc (.cells #[.int .i64 o, .int .i64 A, .int .i64 B, .int .i64 C, .int .i64 N, .slice ua l.length uc] 47)).heap.size = w.heap.size + 1 := World.size_alloc _ _
  have HO1 := Lib.hid (r1.heap HOB.out (by simp))
  have c0 : w1.cell? ⟨w.heap.size, 0, none⟩ = some (.int .i64 o) := cell_of_heap HO1.out rfl
  have R1 := Lib.hid (R0.out.trans r1)
  have HV := Lib.hid (owns_base hv (base' := w.heap.size) (fun k hk => by have := (hv.lt k hk).1; omega))
  clear r1 hv hs0 HR HOB
  go_wp2_with fail
  refine (HSH.out _).mono ?_
  rintro e w2 ⟨rfl, rfl⟩
  go_wp2_with fail
  refine (HC.out _).mono ?_
  rintro e w' ⟨rfl, q, rfl⟩
  have rq := (Fr.refl no w1).drewN q
  have R3 := Lib.hid (R1.out.drewN q)
  have H3 := Lib.hid (rq.heap HO1.out (by simp))
  have HV3 := Lib.hid (owns_fr HV.out rq (by simp))
  clear rq c0 HO1 HV
  generalize World.drewN w1 q = w3 at *
  have c5 : w3.cell? ⟨w.heap.size, 5, none⟩ = some (.slice ua l.length uc) := cell_of_heap H3.out rfl
  cases b with
  | true =>
    have hn : (0 : Int) < (n : Int) := of_decide_eq_true HT.out
    have hb : w.heap.size ≤ w3.heap.size := R3.out.size
    have HU3 := Lib.hid (HU.out.fr R3.out (by simp))
    have hf := HFEW.out
    have hm : f.length + l.length ≤ maxLen := by unfold maxLen; omega
    go_wp2_with ((refine wpList_append_any rfl (.tmp 11) (.tmp 13) 45 rfl w.heap.size 3 (.int .i64 0) 1 8 Tryz.underlying45 Tryz.infoInt rfl (by decide) (.slice va f.length vc) f.length (ints f) rfl HV3.out l.length (ints l) HU3.out (ints_one' _) hm (by omega) hb ?_); intro ga gc w4 ho4 hg4)
    have q4 := (Fr.refl (fun k => (Value.slice va f.length vc).ownBlock = some k) w3).grown hg4 (fun k hk => .inl hk)
    have R4 := Lib.hid (R3.out.trans' q4 (fun k hk _ => by have := (HV3.out.lt k hk).1; omega))
    have HV4 := Lib.hid ho4
    clear ho4 hg4 q4
    go_ret
    refine ⟨_, rfl, ?_, R4.out⟩
    rw [HRD.out]
    simp only [↓reduceIte, List.length_append]
    simpa [ints] using HV4.out
  | false =>
    have hn : ¬ (0 : Int) < (n : Int) := of_decide_eq_false HT.out
    go_wp2_with fail
    go_ret
    refine ⟨_, rfl, ?_, R3.out⟩
    rw [HRD.out, if_neg (by simp), List.append_nil]
    exact HV3.out

end Go.Proofs.YtofahdjnejodjaaGreat

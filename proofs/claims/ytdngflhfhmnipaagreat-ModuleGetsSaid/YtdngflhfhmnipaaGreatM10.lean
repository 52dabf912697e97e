/- module.Get's reader: number, block. -/
import Derived.Test.YtdngflhfhmnipaaGreatM9
set_option linter.unusedSimpArgs false
set_option linter.unusedVariables false
set_option linter.unusedSectionVars false
set_option linter.unnecessarySimpa false
namespace Go.Proofs.YtdngflhfhmnipaaGreat
open Go.RowKit

attribute [local go_sem] Program.isFuncB Program.isSliceB

variable {w w' w'' w0 : World}

theorem takeP_cases (bs : List Nat) (n : Nat) (s : Pl) (h : s.at_ ≤ bs.length) : ((takeP bs n s).1 = [] ∧ (takeP bs n s).2.er ≠ 0) ∨ ((takeP bs n s).1.length = n ∧ (takeP bs n s).2.er = 0 ∧ s.er = 0 ∧ (takeP bs n s).1 = (bs.drop s.at_).take n) := by
  unfold takeP
  split
  · exact .inl ⟨rfl, by assumption⟩
  · rename_i h0
    split
    · left
      refine ⟨rfl, ?_⟩
      unfold failP
      rw [if_pos (by simpa using h0)]
      show (4 : Int) ≠ 0
      decide
    · right
      refine ⟨by simp; omega, by simpa using h0, by simpa using h0, rfl⟩
theorem takeP_lt {bs : List Nat} (hb : ∀ b ∈ bs, b < 256) (n : Nat) (s : Pl) : ∀ b ∈ (takeP bs n s).1, b < 256 := by
  unfold takeP
  split
  · intro b hb; cases hb
  · split
    · intro b hb; cases hb
    · intro b h
      exact hb b (List.mem_of_mem_drop (List.mem_of_mem_take h))
theorem unle_two (l : List Nat) (h : ∀ b ∈ l, b < 256) (h2 : l.length ≤ 2) : unle l < 65536 := Nat.lt_of_lt_of_le (unle_lt l h) (Nat.pow_le_pow_right (n := 256) (by decide) h2)
theorem set_same {cs : Array Value} {o : Nat} {v : Value} (h : cs[o]? = some v) : cs.setIfInBounds o v = cs := by
  obtain ⟨h1, h2⟩ := Array.getElem?_eq_some_iff.1 h
  apply Array.ext_getElem?
  intro i
  rw [Array.getElem?_setIfInBounds]
  split
  · rename_i he; subst he; exact h.symm
  · rfl

set_option maxRecDepth 100000 in
set_option maxHeartbeats 2000000 in
theorem num_ok (w : World) (rb pb tb o sz : Nat) (bv dv fv : Value) (bs : List Nat) (s : Pl) (cs : Array Value) (T : TypeId) (hr : w.heap[rb]? = some (.cells #[.pointer (some ⟨pb, 0, none⟩), dv, fv] 68 (0, 0)))
    (hp : PlAt w pb bv bs s) (ht : w.heap[tb]? = some (.cells cs T (0, 0))) (h0 : cs[o]? = some (.int .i64 0)) (hsz : sz = 1 ∨ sz = 2) (hlt : ∀ b ∈ bs, b < 256) (hbl : bs.length ≤ 100000) (hne : tb ≠ pb) (hbt : ∀ k, bv.ownBlock = some k → k ≠ tb) :
    Calls Tryz.prog 39 #[.pointer (some ⟨rb, 0, none⟩), .pointer (some ⟨tb, o, none⟩), .int .i64 sz] w fun e w' => e = .returned (.pointer (some ⟨rb, 0, none⟩)) ∧ PlAt w' pb bv bs (takeP bs sz s).2 ∧
      w'.heap[tb]? = some (.cells (cs.setIfInBounds o (.int .i64 (unle (takeP bs sz s).1 : Nat))) T (0, 0)) ∧ Fr (only [pb, tb]) w w' := by
  have HT := Lib.hid (takep_ok w pb bv bs s sz hp (by omega) hbl)
  have TC := Lib.hid (takeP_cases bs sz s hp.le)
  have TL := Lib.hid (takeP_lt hlt sz s)
  have c0 : w.cell? ⟨rb, 0, none⟩ = some (.pointer (some ⟨pb, 0, none⟩)) := cell_of_heap hr rfl
  have HH := Lib.hid ht
  have H0 := Lib.hid h0
  have HNE := Lib.hid hne
  have HBT := Lib.hid hbt
  have HSZ := Lib.hid hsz
  have hszn : sz ≤ 2 := by omega
  generalize takeP bs sz s = tk at *
  obtain ⟨l, s'⟩ := tk
  dsimp only at TC TL HT ⊢
  clear hr hp ht h0 hlt hne hbt hsz
  go_enter Tryz.func39, Tryz.ntmps39
  go_wp2_with fail
  refine HT.out.mono ?_
  rintro e w1 ⟨v, rfl, hv, -, hp1, r1⟩
  obtain ⟨va, vc, rfl⟩ := owns_shape hv
  have HP1 := Lib.hid hp1
  have R1 := Lib.hid (r1.mono (T := only [pb, tb]) (fun k hk _ => by simp at hk; simp [hk]))
  have HH1 := Lib.hid (r1.heap HH.out (by simpa using HNE.out))
  have HV := Lib.hid (owns_reads hv)
  clear hv hp1 r1 HT c0
  rcases TC.out with ⟨hl, -⟩ | ⟨hl, -⟩
  · subst hl
    have e1 : (((0 : Nat) : Int) == (sz : Int)) = false := by
      have := HSZ.out
      rw [beq_eq_false_iff_ne]
      omega
    have e2 : ((0 : Int) == (sz : Int)) = false := e1
    have HS : Hid (cs.setIfInBounds o (.int .i64 (unle ([] : List Nat) : Nat)) = cs) := Lib.hid (set_same H0.out)
    clear TC HH
    go_wp2_with fail
    go_ret
    exact ⟨rfl, HP1.out, by rw [HS.out]; exact HH1.out, R1.out⟩
  · have HW := Lib.hid (wget_ok w1 _ l HV.out (by have := HSZ.out; omega) TL.out)
    have hu := unle_two l TL.out (by omega)
    have e1 : IntKind.i64.wrap (unle l : Nat) = (unle l : Nat) := by rw [IntKind.wrap_i64] <;> omega
    have f1 : w1.frozen? ⟨tb, o, none⟩ = false := frozen_of_heap HH1.out
    have c1 : w1.cell? ⟨tb, o, none⟩ = some (.int .i64 0) := cell_of_heap HH1.out H0.out
    have e3 : ((l.length : Int) == (sz : Int)) = true := by rw [hl]; simp
    have HL := Lib.hid hl
    obtain ⟨u, hU⟩ : ∃ u, unle l = u := ⟨_, rfl⟩
    rw [hU] at HW e1 hu
    have HU := Lib.hid hU
    have HLL := Lib.hid hl
    clear TC hl HH hU
    generalize l.length = ll at *
    go_wp2_with fail
    refine HW.out.mono ?_
    rintro e w2 ⟨rfl, rfl⟩
    go_wp2_with fail
    go_ret
    have r : Fr (only [pb, tb]) w1 (w1.setCell ⟨tb, o, none⟩ (.int .i64 u)) := (Fr.refl _ w1).setCell _ _ (.inl (by simp))
    have r' : Fr (only [tb]) w1 (w1.setCell ⟨tb, o, none⟩ (.int .i64 u)) := (Fr.refl _ w1).setCell _ _ (.inl (by simp))
    exact ⟨rfl, HP1.out.fr r' (by simpa using HNE.out.symm) (fun k hk => by simpa using HBT.out k hk), by rw [HU.out]; exact heap_setCell HH1.out, R1.out.trans r⟩

end Go.Proofs.YtdngflhfhmnipaaGreat

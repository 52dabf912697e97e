/- container/heap over the numbers that wait: what lies in it, whatever its order. -/
import Derived.Test.YtofahdjnejodjaaGreatFg
set_option linter.unusedSimpArgs false
set_option linter.unusedVariables false
set_option linter.unusedSectionVars false
set_option linter.unnecessarySimpa false
namespace Go.Proofs.YtofahdjnejodjaaGreat
open Go.RowKit Go.Flow

attribute [local go_sem] Program.isFuncB Program.isSliceB

variable {w w' w'' w0 : World}

/-! ### the methods -/
theorem wlen_ok (w : World) (a : Option Addr) (n c : Nat) : Calls Tryz.prog 37 #[.slice a n c] w fun e w' => e = .returned (.int .i64 n) ∧ w = w' := by
  go_enter Tryz.func37, Tryz.ntmps37
  go_wp2_with fail
  go_ret
  exact ⟨rfl, rfl⟩
theorem wless_ok (w : World) (a : Option Addr) (c : Nat) (l : List Nat) (i j : Nat) (hr : Reads w (.slice a l.length c) 1 l.length (ints (nats l))) (hi : i < l.length) (hj : j < l.length) :
    Calls Tryz.prog 174 #[.slice a l.length c, .int .i64 i, .int .i64 j] w fun e w' => e = .returned (.bool (decide (l[i] < l[j]))) ∧ ∃ q, w' = w.drewN q := by
  obtain ⟨b, o, rfl, c1⟩ := hr.at1 (k := i) (u := .int .i64 (l[i] : Nat)) (by simp [ints, nats, hi])
  obtain ⟨b', o', e', c2⟩ := hr.at1 (k := j) (u := .int .i64 (l[j] : Nat)) (by simp [ints, nats, hj])
  cases e'
  have hi' : (i : Int) < l.length := by omega
  have hj' : (j : Int) < l.length := by omega
  generalize l[i] = x at *
  generalize l[j] = y at *
  clear hr
  go_enter Tryz.func174, Tryz.ntmps174
  go_wp2_with fail
  go_quiet (fail)
  go_wp2_with fail
  go_ret
  exact ⟨rfl, _, rfl⟩
def swapL (l : List Nat) (i j : Nat) : List Nat := (l.set i (l.getD j 0)).set j (l.getD i 0)
theorem swapL_len (l : List Nat) (i j : Nat) : (swapL l i j).length = l.length := by simp [swapL]
theorem swapL_mem (l : List Nat) (i j : Nat) (hi : i < l.length) (hj : j < l.length) (x : Nat) : x ∈ swapL l i j ↔ x ∈ l := by
  have hget : ∀ k, k < l.length → (swapL l i j)[k]? = l[if k = j then i else if k = i then j else k]? := by
    intro k hk
    unfold swapL
    rw [List.getElem?_set, List.getElem?_set]
    by_cases h1 : j = k
    · subst h1
      simp [hi, hj]
    · have h1' : ¬ k = j := fun e => h1 e.symm
      by_cases h2 : i = k
      · subst h2
        simp [h1, h1', hi, hj]
      · have h2' : ¬ k = i := fun e => h2 e.symm
        simp [h1, h1', h2, h2']
  rw [List.mem_iff_getElem?, List.mem_iff_getElem?]
  constructor
  · rintro ⟨k, hk⟩
    have hkl : k < l.length := by have := (List.getElem?_eq_some_iff.1 hk).1; rwa [swapL_len] at this
    rw [hget k hkl] at hk
    exact ⟨_, hk⟩
  · rintro ⟨k, hk⟩
    have hkl := (List.getElem?_eq_some_iff.1 hk).1
    refine ⟨if k = j then i else if k = i then j else k, ?_⟩
    rw [hget _ (by split; exact hi; split; exact hj; exact hkl), ← hk]
    congr 1
    by_cases h1 : k = j
    · subst h1
      by_cases h2 : i = k
      · subst h2; simp
      · simp [h2]
    · by_cases h2 : k = i
      · subst h2; simp [h1]
      · simp [h1, h2]
theorem wswap_ok (w : World) (B : Nat) (a : Option Addr) (c : Nat) (l : List Nat) (i j : Nat) (hown : w.ownsRow B 3 1 (.slice a l.length c) l.length (ints (nats l))) (hi : i < l.length) (hj : j < l.length) :
    Calls Tryz.prog 177 #[.slice a l.length c, .int .i64 i, .int .i64 j] w fun e w' => e = .returned (.tuple #[]) ∧ w'.ownsRow B 3 1 (.slice a l.length c) l.length (ints (nats (swapL l i j))) ∧ Fr (fun k => (Value.slice a l.length c).ownBlock = some k) w w' := by
  rcases hown.2 with ⟨_, h0⟩ | ⟨g, cap, cur, hv, hb, hg, h1, h2, hz, ht⟩
  · omega
  · cases hv
    have c1 : w.cell? ⟨g, i, none⟩ = some (.int .i64 (l[i] : Nat)) := by
      rw [hown.cellAt i (by omega)]; simp [ints, nats, hi]
    have c2 : w.cell? ⟨g, j, none⟩ = some (.int .i64 (l[j] : Nat)) := by
      rw [hown.cellAt j (by omega)]; simp [ints, nats, hj]
    have f1 : w.frozen? ⟨g, i, none⟩ = false := frozen_of_heap hg
    have f2 : w.frozen? ⟨g, j, none⟩ = false := frozen_of_heap hg
    have hi' : (i : Int) < l.length := by omega
    have hj' : (j : Int) < l.length := by omega
    have r0 : Fr (fun k => (Value.slice (some ⟨g, 0, none⟩) l.length c).ownBlock = some k) w (w.setCell ⟨g, i, none⟩ (.int .i64 (l[j] : Nat))) := (Fr.refl _ w).setCell _ _ (.inl rfl)
    obtain ⟨o1, -⟩ := hown.stored i (.int .i64 (l[j] : Nat))
    have r1 : Fr (fun k => (Value.slice (some ⟨g, 0, none⟩) l.length c).ownBlock = some k) w (((w.setCell ⟨g, i, none⟩ (.int .i64 (l[j] : Nat))).drew).setCell ⟨g, j, none⟩ (.int .i64 (l[i] : Nat))) := r0.drew.setCell _ _ (.inl rfl)
    obtain ⟨o2, -⟩ := (World.ownsRow.drew o1).stored j (.int .i64 (l[i] : Nat))
    obtain ⟨u3, c3⟩ : ∃ u, ((w.setCell ⟨g, i, none⟩ (.int .i64 (l[j] : Nat))).drew).cell? ⟨g, j, none⟩ = some u := by
      have := (World.ownsRow.drew o1).cellAt j (by omega)
      rw [this]
      exact ⟨_, List.getElem?_eq_getElem (by simp [ints, nats]; omega)⟩
    have f3 : ((w.setCell ⟨g, i, none⟩ (.int .i64 (l[j] : Nat))).drew).frozen? ⟨g, j, none⟩ = false := (World.ownsRow.drew o1).frozenAt j
    have HO2 : Hid ((((w.setCell ⟨g, i, none⟩ (.int .i64 (l[j] : Nat))).drew).setCell ⟨g, j, none⟩ (.int .i64 (l[i] : Nat))).ownsRow B 3 1 (.slice (some ⟨g, 0, none⟩) l.length c) l.length (ints (nats (swapL l i j)))) := Lib.hid (by
      rw [show ints (nats (swapL l i j)) = ((ints (nats l)).set i (.int .i64 (l[j] : Nat))).set j (.int .i64 (l[i] : Nat)) from by
        simp [swapL, ints, nats, List.map_set, List.getD, hi, hj]]
      exact o2)
    have R1 := Lib.hid r1
    clear hown hb hg h1 h2 hz ht r0 r1 o1 o2
    go_enter Tryz.func177, Tryz.ntmps177
    go_wp2_with fail
    go_region
    all_goals go_wp2_with fail
    exact ⟨rfl, .tuple #[], by simp [results], rfl, HO2.out, R1.out⟩

end Go.Proofs.YtofahdjnejodjaaGreat

import Derived.Test.YtihnkijeefkefaaGreatLC
import Derived.Test.YtihnkijeefkefaaGreatLA
import Derived.Laws.Rows
import Derived.Laws.Tables
set_option linter.unusedSimpArgs false
set_option linter.unusedVariables false
set_option linter.unusedSectionVars false
set_option linter.unnecessarySimpa false
set_option maxRecDepth 100000
namespace Go.Proofs.YtihnkijeefkefaaGreat
open Go.RowKit

attribute [local go_sem] Program.isFuncB Program.isSliceB

variable {w w' w'' w0 : World}

end Go.Proofs.YtihnkijeefkefaaGreat

namespace Go.Proofs.YtihnkijeefkefaaGreat
open Go.RowKit

attribute [local go_sem] Program.isFuncB Program.isSliceB

variable {w w' w'' w0 : World}

set_option maxHeartbeats 1000000 in
theorem refsame_ok (w : World) (o A B C N o' A' B' C' N' : Int) (u v : Value) (l m : List Int) (hu : Reads w u 1 l.length (ints l)) (hv : Reads w v 1 m.length (ints m)) (hl : l.length ≤ 9223372036854775807) (hm : m.length ≤ 9223372036854775807) :
    Calls Tryz.prog 179 #[insV o A B C N u, insV o' A' B' C' N' v] w fun e w' => e = .returned (.bool (decide (o = o' ∧ A = A' ∧ B = B' ∧ C = C' ∧ N = N' ∧ l = m))) ∧ Fr no w w' := by
  unfold insV
  have r : Fr no w ((w.alloc (.cells #[.int .i64 o, .int .i64 A, .int .i64 B, .int .i64 C, .int .i64 N, u] 112)).alloc (.cells #[.int .i64 o', .int .i64 A', .int .i64 B', .int .i64 C', .int .i64 N', v] 112)) := ((Fr.refl no w).alloc _).alloc _
  have HU := Lib.hid (hu.fr r (by simp))
  have HV := Lib.hid (hv.fr r (by simp))
  have R := Lib.hid r
  obtain ⟨ua, uc, rfl⟩ := hu.shape
  obtain ⟨va, vc, rfl⟩ := hv.shape
  clear hu hv r
  by_cases h1 : o = o'
  case neg =>
    have hd : Hid (decide (o = o' ∧ A = A' ∧ B = B' ∧ C = C' ∧ N = N' ∧ l = m) = false) := Lib.hid (decide_eq_false (fun h => h1 h.1))
    have e1 : (o != o') = true := by simpa using h1
    rw [hd.out]
    clear h1
    go_enter Tryz.func179, Tryz.ntmps179
    go_wp2_with fail
    go_ret
    exact ⟨rfl, R.out⟩
  subst h1
  by_cases h1 : A = A'
  case neg =>
    have hd : Hid (decide (o = o ∧ A = A' ∧ B = B' ∧ C = C' ∧ N = N' ∧ l = m) = false) := Lib.hid (decide_eq_false (fun h => h1 h.2.1))
    have e1 : (A != A') = true := by simpa using h1
    rw [hd.out]
    clear h1
    go_enter Tryz.func179, Tryz.ntmps179
    go_wp2_with fail
    go_ret
    exact ⟨rfl, R.out⟩
  subst h1
  by_cases h1 : B = B'
  case neg =>
    have hd : Hid (decide (o = o ∧ A = A ∧ B = B' ∧ C = C' ∧ N = N' ∧ l = m) = false) := Lib.hid (decide_eq_false (fun h => h1 h.2.2.1))
    have e1 : (B != B') = true := by simpa using h1
    rw [hd.out]
    clear h1
    go_enter Tryz.func179, Tryz.ntmps179
    go_wp2_with fail
    go_ret
    exact ⟨rfl, R.out⟩
  subst h1
  by_cases h1 : C = C'
  case neg =>
    have hd : Hid (decide (o = o ∧ A = A ∧ B = B ∧ C = C' ∧ N = N' ∧ l = m) = false) := Lib.hid (decide_eq_false (fun h => h1 h.2.2.2.1))
    have e1 : (C != C') = true := by simpa using h1
    rw [hd.out]
    clear h1
    go_enter Tryz.func179, Tryz.ntmps179
    go_wp2_with fail
    go_ret
    exact ⟨rfl, R.out⟩
  subst h1
  by_cases h1 : N = N'
  case neg =>
    have hd : Hid (decide (o = o ∧ A = A ∧ B = B ∧ C = C ∧ N = N' ∧ l = m) = false) := Lib.hid (decide_eq_false (fun h => h1 h.2.2.2.2.1))
    have e1 : (N != N') = true := by simpa using h1
    rw [hd.out]
    clear h1
    go_enter Tryz.func179, Tryz.ntmps179
    go_wp2_with fail
    go_ret
    exact ⟨rfl, R.out⟩
  subst h1
  by_cases hlen : l.length = m.length
  case neg =>
    have hd : Hid (decide (o = o ∧ A = A ∧ B = B ∧ C = C ∧ N = N ∧ l = m) = false) := Lib.hid (decide_eq_false (fun h => hlen (by rw [h.2.2.2.2.2])))
    have e1 : ((l.length : Int) != m.length) = true := by simp; omega
    rw [hd.out]
    clear hlen
    go_enter Tryz.func179, Tryz.ntmps179
    go_wp2_with fail
    go_ret
    exact ⟨rfl, R.out⟩
  have hd : Hid (decide (o = o ∧ A = A ∧ B = B ∧ C = C ∧ N = N ∧ l = m) = decide (l = m)) := Lib.hid (by simp)
  rw [hd.out]
  clear hd
  have HOA := Lib.hid (((Fr.refl no (w.alloc (.cells #[.int .i64 o, .int .i64 A, .int .i64 B, .int .i64 C, .int .i64 N, .slice ua l.length uc] 112))).alloc (.cells #[.int .i64 o, .int .i64 A, .int .i64 B, .int .i64 C, .int .i64 N, .slice va m.length vc] 112)).heap (heap_new w (.cells #[.int .i64 o, .int .i64 A, .int .i64 B, .int .i64 C, .int .i64 N, .slice ua l.length uc] 112)) (by simp))
  have HOB := Lib.hid (heap_new2' w (.cells #[.int .i64 o, .int .i64 A, .int .i64 B, .int .i64 C, .int .i64 N, .slice ua l.length uc] 112) (.cells #[.int .i64 o, .int .i64 A, .int .i64 B, .int .i64 C, .int .i64 N, .slice va m.length vc] 112))
  have HL := Lib.hid hlen
  have hlen' : (m.length : Int) = l.length := by omega
  clear hlen
  generalize hmm : m.length = mm at *
  obtain rfl : mm = l.length := by omega
  have HL2 := Lib.hid hmm
  clear hmm hlen'
  go_enter Tryz.func179, Tryz.ntmps179
  go_wp2_with fail
  go_loopw [5] (fun x wr => ∃ i : Nat, x = .int .i64 i ∧ i ≤ l.length ∧ Hid (l.take i = m.take i) ∧ Hid (Fr no w wr) ∧ Hid (wr.heap[w.heap.size]? = some (.cells #[.int .i64 o, .int .i64 A, .int .i64 B, .int .i64 C, .int .i64 N, .slice ua l.length uc] 112 (0, 0))) ∧
    Hid (wr.heap[w.heap.size + 1]? = some (.cells #[.int .i64 o, .int .i64 A, .int .i64 B, .int .i64 C, .int .i64 N, .slice va l.length vc] 112 (0, 0))) ∧ Hid (Reads wr (.slice ua l.length uc) 1 l.length (ints l)) ∧ Hid (Reads wr (.slice va l.length vc) 1 l.length (ints m))) (fun x _ => (l.length - intOf x).toNat)
  case atStart => exact ⟨0, rfl, by omega, Lib.hid (by simp), R, HOA, HOB, HU, HV⟩
  case round =>
    obtain ⟨i, rfl, hi, hpre, hfr, hoa, hob, hu, hv⟩ := hrel
    have d5 : wr.cell? ⟨w.heap.size, 5, none⟩ = some (.slice ua l.length uc) := cell_of_heap hoa.out rfl
    have e5 : wr.cell? ⟨w.heap.size + 1, 5, none⟩ = some (.slice va l.length vc) := cell_of_heap hob.out rfl
    by_cases hlt : i < l.length
    · have hlt2 : i < m.length := by rw [HL2.out]; exact hlt
      obtain ⟨b, o1, rfl, c1⟩ := reads_int hu.out hlt
      obtain ⟨b', o1', rfl, c2⟩ := reads_int (HL2.out ▸ hv.out : Reads wr (.slice va m.length vc) 1 m.length (ints m)) hlt2
      have hlt' : (i : Int) < l.length := by omega
      by_cases hne : l[i] = m[i]
      · have hpre2 : Hid (l.take (i + 1) = m.take (i + 1)) := by
          refine Lib.hid ?_
          rw [List.take_succ_eq_append_getElem hlt, List.take_succ_eq_append_getElem hlt2, hpre.out, hne]
        have hc : (l[i] == m[i]) = true := by simp [hne]
        clear hne hpre
        generalize l[i] = p at c1 hc
        generalize m[i] = p2 at c2 hc
        obtain rfl : p = p2 := by simpa using hc
        clear hc
        go_wp2_with fail
        go_quiet (fail)
        go_wp2_with fail
        go_roundw
        case rel => exact ⟨i + 1, by go_num, by omega, hpre2, Lib.hid (hfr.out.drewN _), hoa, hob, hu, hv⟩
        case measure => first | (simp [intOf]; done) | (simp [intOf]; omega)
      · have hno : Hid (l ≠ m) := Lib.hid (by rintro rfl; exact hne rfl)
        have hc : (l[i] != m[i]) = true := by simpa using hne
        clear hne hpre
        generalize l[i] = p at c1 hc
        generalize m[i] = p2 at c2 hc
        go_wp2_with fail
        go_quiet (fail)
        go_wp2_with fail
        go_ret
        refine ⟨?_, hfr.out.drewN _⟩
        rw [decide_eq_false hno.out]; rfl
    · obtain rfl : i = l.length := by omega
      have heq : Hid (l = m) := Lib.hid (by have := hpre.out; rwa [List.take_length, ← HL2.out, List.take_length] at this)
      clear hpre
      go_wp2_with fail
      go_ret
      refine ⟨?_, hfr.out⟩
      rw [decide_eq_true heq.out]; rfl

end Go.Proofs.YtihnkijeefkefaaGreat

namespace Go.Proofs.YtihnkijeefkefaaGreat
open Go.RowKit

attribute [local go_sem] Program.isFuncB Program.isSliceB

variable {w w' w'' w0 : World}

end Go.Proofs.YtihnkijeefkefaaGreat

namespace Go.Proofs.YtihnkijeefkefaaGreat
open Go.RowKit

attribute [local go_sem] Program.isFuncB Program.isSliceB

variable {w w' w'' w0 : World}

end Go.Proofs.YtihnkijeefkefaaGreat

namespace Go.Proofs.YtihnkijeefkefaaGreat
open Go.RowKit

attribute [local go_sem] Program.isFuncB Program.isSliceB

variable {w w' w'' w0 : World}

end Go.Proofs.YtihnkijeefkefaaGreat

namespace Go.Proofs.YtihnkijeefkefaaGreat
open Go.RowKit

attribute [local go_sem] Program.isFuncB Program.isSliceB

variable {w w' w'' w0 : World}

theorem fr_setRow {S : Nat → Prop} {g : Nat} {cs : Array Value} (h : Fr S w w') (hS : S g ∨ w.heap.size ≤ g) : Fr S w (w'.setRow g cs) :=
  ⟨h.os, h.tape, h.output, by simp [World.setRow, h.size], fun k hk hs => by
    have : g ≠ k := fun e => by rcases hS with m | m; exact hs (e ▸ m); omega
    rw [show (w'.setRow g cs).heap[k]? = w'.heap[k]? from by simp [World.setRow, Array.getElem?_modify, this]]
    exact h.block k hk hs⟩

theorem Tryz.infoIns : (Tryz.prog.info? 112).map (·.size) = some 6 := by kernel_rfl

set_option maxHeartbeats 1000000 in
theorem copyins_ok (w : World) (o A B C N : Int) (u : Value) (l : List Int) (hu : Reads w u 1 l.length (ints l)) (hl : l.length ≤ 100000) :
    Calls Tryz.prog 164 #[insV o A B C N u] w fun e w' => ∃ v, e = .returned (insV o A B C N v) ∧ w'.ownsRow w.heap.size 3 1 v l.length (ints l) ∧ Fr no w w' := by
  obtain ⟨ua, uc, rfl⟩ := hu.shape
  have R0 : Hid (Fr no w (((w.alloc (.cells #[.int .i64 o, .int .i64 A, .int .i64 B, .int .i64 C, .int .i64 N, .slice ua l.length uc] 112)).alloc (.cells #[.int .i64 0, .int .i64 0, .int .i64 0, .int .i64 0, .int .i64 0, .slice none 0 0] 112)).alloc (.cells #[] 3))) := Lib.hid ((((Fr.refl no w).alloc _).alloc _).alloc _)
  have HA := Lib.hid ((Fr.refl no ((w.alloc (.cells #[.int .i64 o, .int .i64 A, .int .i64 B, .int .i64 C, .int .i64 N, .slice ua l.length uc] 112)).alloc (.cells #[.int .i64 0, .int .i64 0, .int .i64 0, .int .i64 0, .int .i64 0, .slice none 0 0] 112))).alloc (.cells #[] 3) |>.heap (heap_new2 w (.cells #[.int .i64 o, .int .i64 A, .int .i64 B, .int .i64 C, .int .i64 N, .slice ua l.length uc] 112) _) (by simp))
  have HB := Lib.hid ((Fr.refl no ((w.alloc (.cells #[.int .i64 o, .int .i64 A, .int .i64 B, .int .i64 C, .int .i64 N, .slice ua l.length uc] 112)).alloc (.cells #[.int .i64 0, .int .i64 0, .int .i64 0, .int .i64 0, .int .i64 0, .slice none 0 0] 112))).alloc (.cells #[] 3) |>.heap (heap_new2' w (.cells #[.int .i64 o, .int .i64 A, .int .i64 B, .int .i64 C, .int .i64 N, .slice ua l.length uc] 112) _) (by simp))
  have ho0 := (owns_new ((w.alloc (.cells #[.int .i64 o, .int .i64 A, .int .i64 B, .int .i64 C, .int .i64 N, .slice ua l.length uc] 112)).alloc (.cells #[.int .i64 0, .int .i64 0, .int .i64 0, .int .i64 0, .int .i64 0, .slice none 0 0] 112)) 3 1)
  simp only [World.size_alloc] at ho0
  have HO := Lib.hid ho0
  clear ho0
  have HU := Lib.hid (hu.fr R0.out (by simp))
  clear hu
  unfold insV
  go_enter Tryz.func164, Tryz.ntmps164
  go_upto_region 2 with (at_builtin; go_must (refine wpList_append_at rfl (.tmp 3) _ 26 rfl (w.heap.size + 1 + 1) 3 (.int .i64 0) 1 8 Tryz.underlying26 Tryz.infoInt rfl (by decide) _ 0 _ rfl HO.out l.length _ HU.out (ints_one' l) (by unfold maxLen; omega) (by omega) (by simp only [World.size_alloc]; omega) ?_); intro ga gc w6 ho hg hb; go_must (have r6 := (Fr.refl (fun k => k = w.heap.size + 1 + 1) _).grown hg (fun k hk => .inl (by cases hk; rfl))); go_must (have HA6 := Lib.hid (r6.heap HA.out (by omega))); go_must (have HB6 := Lib.hid (r6.heap HB.out (by omega))); go_must (have R6 := Lib.hid (R0.out.trans' r6 (fun k hk _ => by omega))); go_must (have cA : w6.cell? ⟨w.heap.size, 5, none⟩ = some (.slice ua l.length uc) := cell_of_heap HA6.out rfl); go_must (have fA : w6.frozen? ⟨w.heap.size, 5, none⟩ = false := frozen_of_heap HA6.out); go_must (have HO6 := Lib.hid (owns_base ho (base' := w.heap.size) (fun k hk => by have := (ho.lt k hk).1; omega))); go_must (have HL6 := Lib.hid (fun k (hk : (Value.slice ga (0 + l.length) gc).ownBlock = some k) => (ho.lt k hk).1)); clear ho hg hb r6)
  simp only [Nat.zero_add] at *
  have HA7 := Lib.hid (heap_setCell (o := 5) (v := .slice ga l.length gc) HA6.out)
  have R7 := Lib.hid (R6.out.setCell ⟨w.heap.size, 5, none⟩ (.slice ga l.length gc) (.inr (Nat.le_refl _)))
  have r7 : Fr (only [w.heap.size]) w6 (w6.setCell ⟨w.heap.size, 5, none⟩ (.slice ga l.length gc)) := (Fr.refl _ _).setCell _ _ (.inl (by simp))
  have HB7 := Lib.hid (r7.heap HB6.out (by simp))
  have HO7 := Lib.hid (owns_fr HO6.out r7 (fun k hk => by have := HL6.out k hk; simp; omega))
  clear r7 cA fA
  generalize w6.setCell ⟨w.heap.size, 5, none⟩ (.slice ga l.length gc) = w7 at *
  refine wp_region_lit ?_
  refine wpList_load_row rfl _ _ rfl w.heap.size rfl _ _ _ _ HA7.out Tryz.underlying112 rfl (by rw [Tryz.infoIns]; rfl) ?_
  simp only [act_put, List.setIfInBounds_toArray, List.set_cons_zero, List.set_cons_succ]
  refine wpList_store_row rfl _ _ _ rfl (w.heap.size + 1) _ rfl rfl _ _ HB7.out (by rw [Tryz.infoIns]; rfl) rfl (by simp [Value.oneCell']) ?_
  rw [act_put_none]
  have HB8 := Lib.hid (setRow_heap w7 (w.heap.size + 1) _ #[.int .i64 o, .int .i64 A, .int .i64 B, .int .i64 C, .int .i64 N, .slice ga l.length gc] _ _ HB7.out)
  have R8 := Lib.hid (fr_setRow (g := w.heap.size + 1) (cs := #[.int .i64 o, .int .i64 A, .int .i64 B, .int .i64 C, .int .i64 N, .slice ga l.length gc]) R7.out (.inr (by omega)))
  have HO8 := Lib.hid (owns_fr HO7.out (fr_setRow (S := only [w.heap.size + 1]) (g := w.heap.size + 1) (cs := #[.int .i64 o, .int .i64 A, .int .i64 B, .int .i64 C, .int .i64 N, .slice ga l.length gc]) (Fr.refl _ w7) (.inl (by simp))) (fun k hk => by have := HL6.out k hk; simp; omega))
  go_wp2_with fail
  exact ⟨rfl, _, results_cell_row rfl _ _ _ _ _ _ _ rfl HB8.out Tryz.underlying112 rfl (by rw [Tryz.infoIns]; rfl), _, rfl, HO8.out, R8.out⟩

end Go.Proofs.YtihnkijeefkefaaGreat

namespace Go.Proofs.YtihnkijeefkefaaGreat
open Go.RowKit

attribute [local go_sem] Program.isFuncB Program.isSliceB

variable {w w' w'' w0 : World}

end Go.Proofs.YtihnkijeefkefaaGreat

namespace Go.Proofs.YtihnkijeefkefaaGreat
open Go.RowKit

attribute [local go_sem] Program.isFuncB Program.isSliceB

variable {w w' w'' w0 : World}

/-! ### the plain law of OpWithin -/
structure Fine (o A B C N : Int) (l : List Int) (regs area : Int) : Prop where
  op : 0 ≤ o ∧ o < 33
  lim : ¬ (regs < 0 ∨ 64 < regs ∨ area < 0 ∨ 4096 < area ∨ bareB o A B C N l.length = false)
  few : ¬ 8 < l.length
  all : ¬ ((fieldsOf [A, B, C] (sh o)).1 ++ l).any (out1 regs) = true
  num : ¬ (sh o).any (fun c => !numOk c.toNat N area) = true
theorem fine_iff (o A B C N : Int) (l : List Int) (regs area : Int) : checkOf o A B C N l regs area = 0 ↔ Fine o A B C N l regs area := by
  unfold checkOf
  constructor
  · intro h
    by_cases h1 : 0 ≤ o ∧ o < 33
    · rw [if_neg (fun h => h h1)] at h
      by_cases h2 : regs < 0 ∨ 64 < regs ∨ area < 0 ∨ 4096 < area ∨ bareB o A B C N l.length = false
      · rw [if_pos h2] at h; cases h
      rw [if_neg h2] at h
      by_cases h3 : 8 < l.length
      · rw [if_pos h3] at h; cases h
      rw [if_neg h3] at h
      by_cases h4 : ((fieldsOf [A, B, C] (sh o)).1 ++ l).any (out1 regs) = true
      · rw [if_pos h4] at h; cases h
      rw [if_neg h4] at h
      by_cases h5 : (sh o).any (fun c => !numOk c.toNat N area) = true
      · rw [if_pos h5] at h; cases h
      exact ⟨h1, h2, h3, h4, h5⟩
    · rw [if_pos h1] at h; cases h
  · rintro ⟨h1, h2, h3, h4, h5⟩
    rw [if_neg (fun h => h h1), if_neg h2, if_neg h3, if_neg h4, if_neg h5]

end Go.Proofs.YtihnkijeefkefaaGreat

namespace Go.Proofs.YtihnkijeefkefaaGreat
open Go.RowKit

theorem len_six : ∀ (es : List Value), es.length = 6 → ∃ a b c d e f, es = [a, b, c, d, e, f]
  | [a, b, c, d, e, f], _ => ⟨a, b, c, d, e, f, rfl⟩

/-- an instruction that was handed in -/
theorem ins_of {w : World} {n : Nat} {cs : List Value} {d : Dt} (h : Rd Tryz.prog w n 112 cs d) :
    ∃ (o A B C N : Int) (u : Value) (l : List Int), cs = [.int .i64 o, .int .i64 A, .int .i64 B, .int .i64 C, .int .i64 N, u] ∧ Reads w u 1 l.length (ints l) ∧ l.length ≤ maxLen ∧ (∀ z ∈ l, (Lit.int .i64 z).wf = true) ∧
      (Lit.int .i64 o).wf = true ∧ (Lit.int .i64 A).wf = true ∧ (Lit.int .i64 B).wf = true ∧ (Lit.int .i64 C).wf = true ∧ (Lit.int .i64 N).wf = true := by
  obtain ⟨fl, -, hlen, -, hf⟩ := h.fields (z := 6) Tryz.underlying112 (by kernel_rfl)
  obtain ⟨a0, a1, a2, a3, a4, a5, rfl⟩ := len_six cs hlen
  obtain ⟨_, -, r0⟩ := hf 0 3 0 1 rfl (by kernel_rfl)
  obtain ⟨_, -, r1⟩ := hf 1 3 1 1 rfl (by kernel_rfl)
  obtain ⟨_, -, r2⟩ := hf 2 3 2 1 rfl (by kernel_rfl)
  obtain ⟨_, -, r3⟩ := hf 3 3 3 1 rfl (by kernel_rfl)
  obtain ⟨_, -, r4⟩ := hf 4 3 4 1 rfl (by kernel_rfl)
  obtain ⟨_, -, r5⟩ := hf 5 26 5 1 rfl (by kernel_rfl)
  obtain ⟨o, e0, -, w0⟩ := r0.int Tryz.underlying3
  obtain ⟨A, e1, -, w1⟩ := r1.int Tryz.underlying3
  obtain ⟨B, e2, -, w2⟩ := r2.int Tryz.underlying3
  obtain ⟨C, e3, -, w3⟩ := r3.int Tryz.underlying3
  obtain ⟨N, e4, -, w4⟩ := r4.int Tryz.underlying3
  obtain ⟨l, -, hr, hz, hm⟩ := Rd.reads (v := a5) Tryz.underlying26 Tryz.underlying3 (by kernel_rfl) r5
  simp at e0 e1 e2 e3 e4
  subst e0 e1 e2 e3 e4
  exact ⟨o, A, B, C, N, a5, l, rfl, by simpa [ints] using hr, hm, hz, w0, w1, w2, w3, w4⟩

end Go.Proofs.YtihnkijeefkefaaGreat

/- An append to a row that is full: old blocks stay (law24). -/
import Derived.Test.YtjpkmaacalelcaaDoorY22
import Derived.Test.YtjpkmaacalelcaaDoorFree
import Derived.Test.YtjpkmaacalelcaaDoorEl
set_option linter.unusedSimpArgs false
set_option linter.unusedVariables false
set_option linter.unusedSectionVars false
set_option linter.unnecessarySimpa false
set_option maxRecDepth 100000
namespace Go.Proofs.YtjpkmaacalelcaaDoor
open Go.RowKit Go.Ty Go.Deep

variable {w w' w'' w0 : World}

theorem infoI_eq : Tryd.prog.info? 3 = some { (Tryd.prog.info? 3).get! with zero := some (.int .i64 0), size := 1, bytes := 8 } := by kernel_rfl

theorem setRow_same (w : World) (b : Nat) (c : Array Value) (t : TypeId) (h : w.heap[b]? = some (.cells c t (0, 0))) : Fr no w (w.setRow b c) := by
  refine ⟨rfl, rfl, rfl, by simp [World.setRow], fun k hk _ => ?_⟩
  by_cases e : b = k
  · subst e
    rw [setRow_heap _ _ _ _ _ _ h, h]
  · simp [World.setRow, Array.getElem?_modify, e]

theorem app_full (ty : TypeId) (w : World) (B b : Nat) (m : Int) (ma : Option Addr) (mc : Nat) (tms : List Int) (hb : w.heap[b]? = some (.cells #[.int .i64 m] 3 (0, 0))) (hB : B ≤ b) (hm : TIn w ma mc tms) (hl : tms.length ≤ 100000) :
    ∃ w' ga gc, (Builtin.append_ #[23, 23] ty #[.slice (some ⟨b, 0, none⟩) 1 1, .slice ma tms.length mc]).run Tryd.prog w = .ok (.slice ga (tms.length + 1) gc) w' ∧ Fr no w w' ∧
      w'.ownsRow B 3 1 (.slice ga (tms.length + 1) gc) (tms.length + 1) (ints (m :: tms)) := by
  have hbl := (Array.getElem?_eq_some_iff.1 hb).1
  rcases hm with ⟨hv, h0, h1⟩ | ⟨ad, cap, hv, h1, h2, h3, h4⟩
  · have hn : tms = [] := List.length_eq_zero_iff.1 h0
    subst hn
    cases hv
    refine ⟨w, some ⟨b, 0, none⟩, 1, ?_, Fr.refl _ _, owns_lit1 hb hB⟩
    exact run_append_owned_none (P := Tryd.prog) (w := w) B 23 ty 3 _ 1 Tryd.underlying23 infoI_eq _ 1 _ (owns_lit1 hb hB)
  · cases hv
    by_cases hn : tms.length = 0
    · have hn : tms = [] := List.length_eq_zero_iff.1 hn
      subst hn
      have h := run_append_room (P := Tryd.prog) w 23 ty 3 _ Tryd.underlying23 infoI_eq b 1 1 #[.int .i64 m] hb ad 0 mc [] (by simp) (fun j u hu => by simp at hu) (fun u hu => by cases hu) (by omega) (by simp)
      refine ⟨_, some ⟨b, 0, none⟩, 1, h, ?_, ?_⟩
      · exact setRow_same w b #[.int .i64 m] 3 hb
      · exact owns_lit1 (setRow_heap _ _ _ _ _ _ hb) hB
    · have hn63 : ((1 + tms.length : Nat) : Int) ≤ 9223372036854775807 := by omega
      have h := run_append_grow (P := Tryd.prog) (w := w) 23 ty 3 _ (.int .i64 0) Tryd.underlying23 infoI_eq rfl ⟨b, 0, none⟩ 1 1 [.int .i64 m] (by simp) (fun j u hu => by
          match j, hu with
          | 0, hu => cases hu; exact cell_of_heap hb rfl
          | _ + 1, hu => simp at hu) ad tms.length mc (ints tms) (by simpa using h3) h4 (by omega) hn63 (by
            have := nextslicecap_le (need := 1 + tms.length) (old := 1) (by omega)
            show Builtin.nextslicecap (1 + tms.length) 1 * 8 ≤ _
            omega)
      have hge := grownCap_ge w (1 + tms.length) 1 3
      have hcm := grownCap_le_maxLen w (1 + tms.length) 1 3 (by unfold maxLen; omega)
      refine ⟨_, some ⟨w.heap.size, 0, none⟩, grownCap w (1 + tms.length) 1 3, by rw [Nat.add_comm tms.length 1]; exact h, ((Fr.refl no w).drew).alloc _, ?_⟩
      generalize grownCap w (1 + tms.length) 1 3 = gc at *
      have hlen : (ints tms).length = tms.length := by simp [ints]
      refine ⟨by simp [ints], .inr ⟨w.heap.size, gc, _, rfl, by omega, heap_new w.drew _, by omega, hcm, ?_, ?_⟩⟩
      · rw [Array.size_append, size_zeroCells]
        simp [hlen]
        show tms.length + 1 + (gc - (1 + tms.length)) * 1 = gc
        omega
      · rw [Array.toList_append]
        simp [ints]

end Go.Proofs.YtjpkmaacalelcaaDoor
namespace Go.Inv
open Go.Proofs Go.Proofs.YtjpkmaacalelcaaDoor Go.Ty
theorem Step.append_full {o : Oper} {a : Act} {w : World} {K : Act → World → Prop} {Q : Exit → Act → World → Prop} (s x : Operand)
    (ho : o.op = .call { callee := .builtin .append, args := #[s, x], argTypes := #[23, 23] }) (B b : Nat) (m : Int) (ma : Option Addr) (mc : Nat) (tms : List Int)
    (hs : a.eval s = .slice (some ⟨b, 0, none⟩) 1 1) (hx : a.eval x = .slice ma tms.length mc) (hb : w.heap[b]? = some (.cells #[.int .i64 m] 3 (0, 0))) (hB : B ≤ b) (hm : TIn w ma mc tms) (hl : tms.length ≤ 100000)
    (h : ∀ ga gc w', Fr no w w' → w'.ownsRow B 3 1 (.slice ga (tms.length + 1) gc) (tms.length + 1) (ints (m :: tms)) → K (a.put o.dst (.slice ga (tms.length + 1) gc)) w') : Step Tryd.prog o a w K Q := by
  obtain ⟨w', ga, gc, hrun, h1, h2⟩ := app_full o.type w B b m ma mc tms hb hB hm hl
  refine ⟨?_⟩
  have hk := h ga gc w' h1 h2
  unfold Oper.wp
  simp [execOp, ho, resolve, invoke, builtin, hs, hx, hrun, Result.andThen]
  exact hk
end Go.Inv

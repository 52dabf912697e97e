import Derived.Test.YtihnkijeefkefaaGreatQ23
set_option linter.unusedSimpArgs false
set_option linter.unusedVariables false
set_option linter.unusedSectionVars false
set_option linter.unnecessarySimpa false
set_option maxRecDepth 100000
/- The program's space is made, once. -/
namespace Go.Proofs.YtihnkijeefkefaaGreat
open Go.RowKit

attribute [local go_sem] Program.isFuncB Program.isSliceB

variable {w w' w'' w0 : World} {p : Nat} {s s' : Zp} {z : Pz}

def iniC (h0 h1 h2 h3 : Value) (m : Mx) (da : Option Addr) (dc : Nat) (fa : Option Addr) (fc : Nat) (iv : Value) (n : Nat) (fuel : Int) : Array Value :=
  #[h0, h1, h2, h3, .slice da m.d.length dc, .slice fa m.f.length fc, iv, .int .i64 n, .pointer none, .pointer none, .int .i64 fuel, .int .u64 0, .int .u64 0, .int .i64 0, .int .i64 0, .slice none 0 0, .int .i64 0, .int .i64 0]
section
variable {m : Mx} {n : Nat} {inp : List Nat} {fuel : Int} {da fa : Option Addr} {dc fc : Nat} {iv h0 h1 h2 h3 : Value}
theorem Made.turn {w1 w2 : World} {k0 k1 k2 k3 : Value} (h : Made w w1 p h0 h1 h2 h3 da dc fa fc iv s z) (hp : p < w.heap.size) (r : Fr (only [p]) w1 w2) (ho : w2.heap[p]? = some (.cells (spCellsH k0 k1 k2 k3 s z) 94 (0, 0))) : Made w w2 p k0 k1 k2 k3 da dc fa fc iv s z :=
  ⟨h.eda, h.edc, h.efa, h.efc, h.eiv, h.ekv, h.elv, ho, h.mem.frx r (by have := h.bq; simp; omega) (by have := h.bg; simp; omega), h.tape.frx r (by have := h.bt; simp; omega) (fun k hk => by have := h.bv k hk; simp; omega) (fun k hk => by rw [h.elv] at hk; cases hk), h.bq, h.bg, h.bt, h.bv, h.ng, h.fr.trans r⟩
theorem Made.before {w1 : World} (h : Made w1 w' p h0 h1 h2 h3 da dc fa fc iv s z) (r : Fr (only [p]) w w1) : Made w w' p h0 h1 h2 h3 da dc fa fc iv s z :=
  ⟨h.eda, h.edc, h.efa, h.efc, h.eiv, h.ekv, h.elv, h.obj, h.mem, h.tape, Nat.le_trans r.size h.bq, Nat.le_trans r.size h.bg, Nat.le_trans r.size h.bt, fun k hk => Nat.le_trans r.size (h.bv k hk), h.ng, r.trans h.fr⟩
set_option maxHeartbeats 1000000 in
theorem made1_ok (w : World) (b : Nat) (hb : w.heap[b]? = some (.cells #[.pointer (some ⟨p, 0, none⟩)] 30 (0, 0))) (ha : NewArg m n inp fuel) (hobj : w.heap[p]? = some (.cells (iniC h0 h1 h2 (.int .i64 0) m da dc fa fc iv n fuel) 94 (0, 0))) (hm : ModIn w m da dc fa) (hpm : ∀ w', Fr (only [p]) w w' → ModIn w' m da dc fa ∧ Reads w' iv 1 inp.length (u8s inp)) (hin : Reads w iv 1 inp.length (u8s inp)) :
    Calls Tryz.prog 124 #[.pointer (some ⟨b, 0, none⟩)] w fun e w' => e = .returned (.tuple #[]) ∧ ∃ z, Made w w' p h0 h1 h2 (.int .i64 0) da dc fa fc iv (newS m n inp fuel) z := by
  have HMK := Lib.hid (make_ok w.drew ha hobj (hm.fr (Fr.refl no w).drew) (fun w' r => hpm w' ((Fr.refl no w).drew.to.trans r)) (hin.fr (Fr.refl no w).drew (by simp)))
  have HB := Lib.hid hb
  have HPB : Hid (p < w.heap.size) := Lib.hid (Array.getElem?_eq_some_iff.1 hobj).1
  have hbp : b ≠ p := block_ne hb hobj (by decide)
  have cb : w.drew.cell? ⟨b, 0, none⟩ = some (.pointer (some ⟨p, 0, none⟩)) := cell_of_heap (w := w.drew) hb rfl
  clear hb hobj hm hpm hin
  go_enter Tryz.func124, Tryz.ntmps124
  refine Lex.region [2, 5] [3, 3] (by kernel_rfl) (by kernel_rfl) ?_
  refine Lex.opens (fun w' => w'.cell? ⟨b, 0, none⟩ = some (.pointer (some ⟨p, 0, none⟩))) (cb) ?_
  repeat (first
    | (refine Lex.skips (by rfl) ?_; (try simp only [Act.put, List.setIfInBounds_toArray, List.set_cons_zero, List.set_cons_succ]))
    | (refine Lex.quiet (v := ?_) (by rfl) (by rfl) ?_ ?_; rotate_left; (focus (intro w' hS'; go_simp; try rfl)); (try simp only [Act.put, List.setIfInBounds_toArray, List.set_cons_zero, List.set_cons_succ])))
  refine Lex.loud (by rfl) (by rfl) ?_
  intro K' hK'
  go_simp
  refine HMK.out.mono ?_
  rintro e w1 ⟨rfl, z, hz⟩
  have hob := hz.obj
  have c3 : w1.cell? ⟨p, 3, none⟩ = some (.int .i64 0) := cell_of_heap hob rfl
  have f3 : w1.frozen? ⟨p, 3, none⟩ = false := frozen_of_heap hob
  have cb1 : w1.cell? ⟨b, 0, none⟩ = some (.pointer (some ⟨p, 0, none⟩)) := hz.fr.cell cb (by simp; exact hbp)
  have HZ := Lib.hid hz
  clear hz hob
  refine hK' _ _ (cb1) ?_
  clear hK'
  try simp only [Act.put, List.setIfInBounds_toArray, List.set_cons_zero, List.set_cons_succ]
  refine Lex.done ?_
  refine Lex.opens (fun _ => True) (trivial) ?_
  repeat (first
    | (refine Lex.skips (by rfl) ?_; (try simp only [Act.put, List.setIfInBounds_toArray, List.set_cons_zero, List.set_cons_succ]))
    | (refine Lex.quiet (v := ?_) (by rfl) (by rfl) ?_ ?_; rotate_left; (focus (intro w' hS'; go_simp; try rfl)); (try simp only [Act.put, List.setIfInBounds_toArray, List.set_cons_zero, List.set_cons_succ])))
  refine Lex.loud (by rfl) (by rfl) ?_
  intro K' hK'
  go_simp
  refine hK' _ _ (trivial) ?_
  clear hK'
  try simp only [Act.put, List.setIfInBounds_toArray, List.set_cons_zero, List.set_cons_succ]
  refine Lex.done ?_
  refine Lex.ends ?_
  have HF := Lib.hid ((HZ.out.turn (k0 := h0) (k1 := h1) (k2 := h2) (k3 := .int .i64 0) HPB.out ((Fr.refl (only [p]) w1).setCell ⟨p, 3, none⟩ (.int .i64 0) (.inl (by simp))) (heap_setCell (o := 3) HZ.out.obj)).before (w := w) (Fr.refl no w).drew.to)
  clear HZ c3 f3 cb1
  go_wp2_with fail
  go_end0
  exact ⟨rfl, _, HF.out⟩
set_option maxHeartbeats 1000000 in
theorem made1_full (w : World) (b : Nat) (hb : w.heap[b]? = some (.cells #[.pointer (some ⟨p, 0, none⟩)] 30 (0, 0))) (hobj : w.heap[p]? = some (.cells (iniC h0 h1 h2 (.int .i64 0) m da dc fa fc iv n fuel) 94 (0, 0))) (hd : m.d.length ≤ 8192) (n0 : 16 ≤ n) (n1 : n ≤ 65536) (hfl : n < flr m) :
    Calls Tryz.prog 124 #[.pointer (some ⟨b, 0, none⟩)] w fun e w' => e = .returned (.tuple #[]) ∧ w'.heap[p]? = some (.cells (iniC h0 h1 h2 (.int .i64 8) m da dc fa fc iv n fuel) 94 (0, 0)) ∧ Fr (only [p]) w w' := by
  have HMK := Lib.hid (make_full w.drew hobj hd n0 n1 hfl)
  have HOB := Lib.hid hobj
  have c3 : w.drew.cell? ⟨p, 3, none⟩ = some (.int .i64 0) := cell_of_heap (w := w.drew) hobj rfl
  have f3 : w.drew.frozen? ⟨p, 3, none⟩ = false := frozen_of_heap (w := w.drew) hobj
  have cb : w.drew.cell? ⟨b, 0, none⟩ = some (.pointer (some ⟨p, 0, none⟩)) := cell_of_heap (w := w.drew) hb rfl
  clear hb hobj hd n0 n1 hfl
  go_enter Tryz.func124, Tryz.ntmps124
  refine Lex.region [2, 5] [3, 3] (by kernel_rfl) (by kernel_rfl) ?_
  refine Lex.opens (fun w' => w'.cell? ⟨b, 0, none⟩ = some (.pointer (some ⟨p, 0, none⟩))) (cb) ?_
  repeat (first
    | (refine Lex.skips (by rfl) ?_; (try simp only [Act.put, List.setIfInBounds_toArray, List.set_cons_zero, List.set_cons_succ]))
    | (refine Lex.quiet (v := ?_) (by rfl) (by rfl) ?_ ?_; rotate_left; (focus (intro w' hS'; go_simp; try rfl)); (try simp only [Act.put, List.setIfInBounds_toArray, List.set_cons_zero, List.set_cons_succ])))
  refine Lex.loud (by rfl) (by rfl) ?_
  intro K' hK'
  go_simp
  refine HMK.out.mono ?_
  rintro e w1 ⟨rfl, rfl⟩
  refine hK' _ _ (cb) ?_
  clear hK'
  try simp only [Act.put, List.setIfInBounds_toArray, List.set_cons_zero, List.set_cons_succ]
  refine Lex.done ?_
  refine Lex.opens (fun _ => True) (trivial) ?_
  repeat (first
    | (refine Lex.skips (by rfl) ?_; (try simp only [Act.put, List.setIfInBounds_toArray, List.set_cons_zero, List.set_cons_succ]))
    | (refine Lex.quiet (v := ?_) (by rfl) (by rfl) ?_ ?_; rotate_left; (focus (intro w' hS'; go_simp; try rfl)); (try simp only [Act.put, List.setIfInBounds_toArray, List.set_cons_zero, List.set_cons_succ])))
  refine Lex.loud (by rfl) (by rfl) ?_
  intro K' hK'
  go_simp
  refine hK' _ _ (trivial) ?_
  clear hK'
  try simp only [Act.put, List.setIfInBounds_toArray, List.set_cons_zero, List.set_cons_succ]
  refine Lex.done ?_
  refine Lex.ends ?_
  go_wp2_with fail
  go_end0
  exact ⟨rfl, heap_setCell (w := w.drew) (o := 3) HOB.out, (Fr.refl no w).drew.to.trans ((Fr.refl (only [p]) w.drew).setCell ⟨p, 3, none⟩ _ (.inl (by simp)))⟩
set_option maxHeartbeats 1000000 in
theorem smade_first (w : World) (ha : NewArg m n inp fuel) (hobj : w.heap[p]? = some (.cells (iniC (.int .u32 0) (.int .i32 0) (.int .u32 0) (.int .i64 0) m da dc fa fc iv n fuel) 94 (0, 0))) (hm : ModIn w m da dc fa) (hpm : ∀ w', Fr (only [p]) w w' → ModIn w' m da dc fa ∧ Reads w' iv 1 inp.length (u8s inp)) (hin : Reads w iv 1 inp.length (u8s inp)) :
    Calls Tryz.prog 57 #[.pointer (some ⟨p, 0, none⟩)] w fun e w' => e = .returned (.int .i64 0) ∧ ∃ z, Made w w' p (.int .u32 1) (.int .i32 0) (.int .u32 0) (.int .i64 0) da dc fa fc iv (newS m n inp fuel) z := by
  have r1 := (Fr.refl no w).alloc (.cells #[.pointer (some ⟨p, 0, none⟩)] 30)
  have hB := heap_new w (.cells #[.pointer (some ⟨p, 0, none⟩)] 30)
  have HPB : Hid (p < w.heap.size) := Lib.hid (Array.getElem?_eq_some_iff.1 hobj).1
  have ho1 := r1.heap hobj (by simp)
  have rs := (Fr.refl (only [p]) (w.alloc (.cells #[.pointer (some ⟨p, 0, none⟩)] 30))).setCell ⟨p, 1, none⟩ (.int .i32 1) (.inl (by simp))
  have hB2 := rs.heap hB (by have := HPB.out; simp; omega)
  have ho2 := heap_setCell (o := 1) (v := .int .i32 1) ho1
  have c0 : (w.alloc (.cells #[.pointer (some ⟨p, 0, none⟩)] 30)).cell? ⟨p, 0, none⟩ = some (.int .u32 0) := cell_of_heap ho1 rfl
  have c1 : (w.alloc (.cells #[.pointer (some ⟨p, 0, none⟩)] 30)).cell? ⟨p, 0 + 1, none⟩ = some (.int .i32 0) := cell_of_heap ho1 rfl
  have f1 : (w.alloc (.cells #[.pointer (some ⟨p, 0, none⟩)] 30)).frozen? ⟨p, 0 + 1, none⟩ = false := frozen_of_heap ho1
  have cB : (w.alloc (.cells #[.pointer (some ⟨p, 0, none⟩)] 30)).cell? ⟨w.heap.size, 0, none⟩ = some (.pointer (some ⟨p, 0, none⟩)) := cell_of_heap hB rfl
  have R1 := Lib.hid r1
  have R2 : Hid (Fr (only [p]) w ((w.alloc (.cells #[.pointer (some ⟨p, 0, none⟩)] 30)).setCell ⟨p, 1, none⟩ (.int .i32 1))) := Lib.hid (r1.to.trans rs)
  have HBN : Hid (w.heap.size ≠ p) := Lib.hid (by have := HPB.out; omega)
  have HB := Lib.hid hB2
  have HF := Lib.hid (made1_ok (h0 := .int .u32 0) (h1 := .int .i32 1) (h2 := .int .u32 0) _ w.heap.size hB2 ha ho2 (hpm _ R2.out).1 (fun w' r => hpm w' (R2.out.trans r)) (hpm _ R2.out).2)
  clear hobj hm hpm hin ho1 ho2 hB hB2 rs r1
  go_enter Tryz.func57, Tryz.ntmps57
  go_wp2_with fail
  refine (do_first p 0 124 #[.pointer (some ⟨w.heap.size, 0, none⟩)] (fun w' => (∃ z, Made w w' p (.int .u32 0) (.int .i32 1) (.int .u32 0) (.int .i64 0) da dc fa fc iv (newS m n inp fuel) z) ∧ w'.cell? ⟨w.heap.size, 0, none⟩ = some (.pointer (some ⟨p, 0, none⟩))) _ c0 c1 f1 (fun _ => by rfl) (HF.out.mono (by
    rintro e w' ⟨rfl, z, hz⟩
    exact ⟨rfl, ⟨⟨z, hz.before R2.out⟩, cell_of_heap (hz.fr.heap HB.out (by simp; exact HBN.out)) rfl⟩, cell_of_heap hz.obj rfl, cell_of_heap hz.obj rfl, frozen_of_heap hz.obj, frozen_of_heap hz.obj⟩))).mono ?_
  rintro e w' ⟨rfl, w2, ⟨⟨z, hz⟩, cB2⟩, rfl⟩
  have HZ : Hid (Made w ((w2.drew.setCell ⟨p, 0, none⟩ (.int .u32 1)).setCell ⟨p, 0 + 1, none⟩ (.int .i32 0)) p (.int .u32 1) (.int .i32 0) (.int .u32 0) (.int .i64 0) da dc fa fc iv (newS m n inp fuel) z) :=
    Lib.hid (hz.turn HPB.out ((Fr.refl no w2).drew.to.trans (((Fr.refl (only [p]) w2.drew).setCell ⟨p, 0, none⟩ (.int .u32 1) (.inl (by simp))).setCell ⟨p, 0 + 1, none⟩ (.int .i32 0) (.inl (by simp)))) (heap_setCell (w := w2.drew.setCell ⟨p, 0, none⟩ (.int .u32 1)) (o := 0 + 1) (heap_setCell (w := w2.drew) (o := 0) hz.obj)))
  have cB3 : ((w2.drew.setCell ⟨p, 0, none⟩ (.int .u32 1)).setCell ⟨p, 0 + 1, none⟩ (.int .i32 0)).cell? ⟨w.heap.size, 0, none⟩ = some (.pointer (some ⟨p, 0, none⟩)) := by
    have r := ((Fr.refl no w2).drew.to (T := only [p])).trans (((Fr.refl (only [p]) w2.drew).setCell ⟨p, 0, none⟩ (.int .u32 1) (.inl (by simp))).setCell ⟨p, 0 + 1, none⟩ (.int .i32 0) (.inl (by simp)))
    exact r.cell cB2 (by simp; exact HBN.out)
  clear hz cB2 c0 c1 f1 cB
  generalize (w2.drew.setCell ⟨p, 0, none⟩ (.int .u32 1)).setCell ⟨p, 0 + 1, none⟩ (.int .i32 0) = w3 at *
  have c3 : w3.cell? ⟨p, 3, none⟩ = some (.int .i64 0) := cell_of_heap HZ.out.obj rfl
  go_wp2_with fail
  go_ret
  exact ⟨rfl, _, HZ.out⟩
set_option maxHeartbeats 1000000 in
theorem smade_full (w : World) (hobj : w.heap[p]? = some (.cells (iniC (.int .u32 0) (.int .i32 0) (.int .u32 0) (.int .i64 0) m da dc fa fc iv n fuel) 94 (0, 0))) (hd : m.d.length ≤ 8192) (n0 : 16 ≤ n) (n1 : n ≤ 65536) (hfl : n < flr m) :
    Calls Tryz.prog 57 #[.pointer (some ⟨p, 0, none⟩)] w fun e w' => e = .returned (.int .i64 8) ∧ Fr (only [p]) w w' := by
  have r1 := (Fr.refl no w).alloc (.cells #[.pointer (some ⟨p, 0, none⟩)] 30)
  have hB := heap_new w (.cells #[.pointer (some ⟨p, 0, none⟩)] 30)
  have HPB : Hid (p < w.heap.size) := Lib.hid (Array.getElem?_eq_some_iff.1 hobj).1
  have ho1 := r1.heap hobj (by simp)
  have rs := (Fr.refl (only [p]) (w.alloc (.cells #[.pointer (some ⟨p, 0, none⟩)] 30))).setCell ⟨p, 1, none⟩ (.int .i32 1) (.inl (by simp))
  have hB2 := rs.heap hB (by have := HPB.out; simp; omega)
  have ho2 := heap_setCell (o := 1) (v := .int .i32 1) ho1
  have c0 : (w.alloc (.cells #[.pointer (some ⟨p, 0, none⟩)] 30)).cell? ⟨p, 0, none⟩ = some (.int .u32 0) := cell_of_heap ho1 rfl
  have c1 : (w.alloc (.cells #[.pointer (some ⟨p, 0, none⟩)] 30)).cell? ⟨p, 0 + 1, none⟩ = some (.int .i32 0) := cell_of_heap ho1 rfl
  have f1 : (w.alloc (.cells #[.pointer (some ⟨p, 0, none⟩)] 30)).frozen? ⟨p, 0 + 1, none⟩ = false := frozen_of_heap ho1
  have cB : (w.alloc (.cells #[.pointer (some ⟨p, 0, none⟩)] 30)).cell? ⟨w.heap.size, 0, none⟩ = some (.pointer (some ⟨p, 0, none⟩)) := cell_of_heap hB rfl
  have R1 := Lib.hid r1
  have R2 : Hid (Fr (only [p]) w ((w.alloc (.cells #[.pointer (some ⟨p, 0, none⟩)] 30)).setCell ⟨p, 1, none⟩ (.int .i32 1))) := Lib.hid (r1.to.trans rs)
  have HBN : Hid (w.heap.size ≠ p) := Lib.hid (by have := HPB.out; omega)
  have HB := Lib.hid hB2
  have HF := Lib.hid (made1_full (h0 := .int .u32 0) (h1 := .int .i32 1) (h2 := .int .u32 0) _ w.heap.size hB2 ho2 hd n0 n1 hfl)
  clear hobj ho1 ho2 hB hB2 rs r1
  go_enter Tryz.func57, Tryz.ntmps57
  go_wp2_with fail
  refine (do_first p 0 124 #[.pointer (some ⟨w.heap.size, 0, none⟩)] (fun w' => w'.heap[p]? = some (.cells (iniC (.int .u32 0) (.int .i32 1) (.int .u32 0) (.int .i64 8) m da dc fa fc iv n fuel) 94 (0, 0)) ∧ Fr (only [p]) w w' ∧ w'.cell? ⟨w.heap.size, 0, none⟩ = some (.pointer (some ⟨p, 0, none⟩))) _ c0 c1 f1 (fun _ => by rfl) (HF.out.mono (by
    rintro e w' ⟨rfl, ho, r⟩
    exact ⟨rfl, ⟨ho, R2.out.trans r, cell_of_heap (r.heap HB.out (by simp; exact HBN.out)) rfl⟩, cell_of_heap ho rfl, cell_of_heap ho rfl, frozen_of_heap ho, frozen_of_heap ho⟩))).mono ?_
  rintro e w' ⟨rfl, w2, ⟨hz, r2, cB2⟩, rfl⟩
  have r := ((Fr.refl no w2).drew.to (T := only [p])).trans (((Fr.refl (only [p]) w2.drew).setCell ⟨p, 0, none⟩ (.int .u32 1) (.inl (by simp))).setCell ⟨p, 0 + 1, none⟩ (.int .i32 0) (.inl (by simp)))
  have RF := Lib.hid (r2.trans r)
  have cB3 : ((w2.drew.setCell ⟨p, 0, none⟩ (.int .u32 1)).setCell ⟨p, 0 + 1, none⟩ (.int .i32 0)).cell? ⟨w.heap.size, 0, none⟩ = some (.pointer (some ⟨p, 0, none⟩)) := r.cell cB2 (by simp; exact HBN.out)
  have ho3 := heap_setCell (w := w2.drew.setCell ⟨p, 0, none⟩ (.int .u32 1)) (o := 0 + 1) (v := .int .i32 0) (heap_setCell (w := w2.drew) (o := 0) (v := .int .u32 1) hz)
  have c3 : ((w2.drew.setCell ⟨p, 0, none⟩ (.int .u32 1)).setCell ⟨p, 0 + 1, none⟩ (.int .i32 0)).cell? ⟨p, 3, none⟩ = some (.int .i64 8) := cell_of_heap ho3 rfl
  clear hz cB2 c0 c1 f1 cB r ho3 r2
  generalize (w2.drew.setCell ⟨p, 0, none⟩ (.int .u32 1)).setCell ⟨p, 0 + 1, none⟩ (.int .i32 0) = w3 at *
  go_wp2_with fail
  go_ret
  exact ⟨rfl, RF.out⟩
end

end Go.Proofs.YtihnkijeefkefaaGreat

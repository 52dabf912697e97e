/- A type's measure: of and its closure (law24). -/
import Derived.Test.YtjpkmaacalelcaaDoorY7
import Derived.Test.YtjpkmaacalelcaaDoorFree
set_option linter.unusedSimpArgs false
set_option linter.unusedVariables false
set_option linter.unusedSectionVars false
set_option linter.unnecessarySimpa false
namespace Go.Inv
section
variable {P : Program} {o : Oper} {a : Act} {w : World} {K : Act → World → Prop} {Q : Exit → Act → World → Prop}
/-- a call of a closure -/
theorem Step.callv (f : FuncId) (caps : Array Value) (x p : Operand) (ts : Array TypeId) (ho : o.op = .call { callee := .value x, args := #[p], argTypes := ts })
    (hx : a.eval x = .func (.func f) #[] caps) (hf : ∀ (l : Array Value) (w : World), (callFunc f l).run P w = .ok (.enter f l) w) (v : Value) (hv : a.eval p = v)
    (h : Calls P f (#[v] ++ caps) w fun e w' => match e with | .returned v => K (a.put o.dst v) w' | _ => False) : Step P o a w K Q := by
  have hrun : (execOp a.eval o).run P w = .ok (.enter f (#[v] ++ caps)) w := by
    simp [execOp, ho, hx, hv, resolve, invoke, Deferred.ofValue, hf]
  refine ⟨?_⟩
  unfold Oper.wp
  rw [hrun, Oper.upon_enter]
  refine h.mono fun e w' he => ?_
  cases e <;> first | exact he | exact he.elim
end
end Go.Inv
namespace Go.Proofs.YtjpkmaacalelcaaDoor
open Go.RowKit Go.Ty Go.Deep

attribute [local go_sem] Program.isFuncB Program.isSliceB

variable {w w' w'' w0 : World}

theorem reads_tail {a : Option Addr} {c : Nat} {v : Value} {vs : List Value} (h : Reads w (.slice a (vs.length + 1) c) 1 (vs.length + 1) (v :: vs)) :
    ∃ b o, a = some ⟨b, o, none⟩ ∧ w.cell? ⟨b, o, none⟩ = some v ∧ vs.length + 1 ≤ c ∧ c ≤ maxLen ∧ Reads w (.slice (if c = 1 then some ⟨b, o, none⟩ else some ⟨b, o + 1, none⟩) vs.length (c - 1)) 1 vs.length vs := by
  obtain ⟨b, o, rfl, h0⟩ := h.at1 (k := 0) (u := v) (by simp)
  rcases h with ⟨_, h1, _⟩ | ⟨a, cap, e, h1, h2, h3, h4⟩
  · simp at h1
  · cases e
    refine ⟨b, o, rfl, by simpa using h0, h1, h2, ?_⟩
    by_cases hc : c = 1
    · rw [if_pos hc]
      have : vs = [] := List.length_eq_zero_iff.1 (by omega)
      subst this
      exact .inr ⟨⟨b, o, none⟩, c - 1, rfl, by simp, by omega, by simp, fun j u hu => by simp at hu⟩
    · rw [if_neg hc]
      refine .inr ⟨⟨b, o + 1, none⟩, c - 1, rfl, by omega, by omega, by simp, fun j u hu => ?_⟩
      have := h4 (j + 1) u (by simpa using hu)
      have e1 : (⟨b, o, none⟩ : Addr).add (j + 1) = ⟨b, o + (j + 1), none⟩ := by unfold Addr.add; rw [if_neg (by omega)]
      have e2 : (⟨b, o + 1, none⟩ : Addr).add j = ⟨b, o + (j + 1), none⟩ := by unfold Addr.add; split <;> simp_all <;> omega
      rw [e2, ← e1]
      exact this

def meas (p : Nat × Nat) : Value := .agg #[.int .i64 p.1, .int .i64 p.2]
def TIn (w : World) (ma : Option Addr) (mc : Nat) (ms : List Int) : Prop := Reads w (.slice ma ms.length mc) 1 ms.length (ints ms)
def FsIn (w : World) (fa : Option Addr) (fs : List Ty.Fd) : Prop := ∀ k (h : k < fs.length), ∃ b o ma mc, fa = some ⟨b, o, none⟩ ∧
  At w b (o + k * 4) [.string fs[k].nm, .int .i64 fs[k].t.b, .int .i64 fs[k].t.s, .slice ma fs[k].t.ms.length mc] ∧ TIn w ma mc fs[k].t.ms
def SlIn (w : World) (sa : Option Addr) (l : List St) : Prop := ∀ k (h : k < l.length), ∃ b o fa fc, sa = some ⟨b, o, none⟩ ∧
  At w b (o + k * 2) [.string l[k].nm, .slice fa l[k].fs.length fc] ∧ FsIn w fa l[k].fs
theorem TIn.fr {ma : Option Addr} {mc : Nat} {ms : List Int} (h : TIn w ma mc ms) (r : Fr no w w') : TIn w' ma mc ms := Reads.fr h r (by simp)
theorem FsIn.fr {fa : Option Addr} {fs : List Ty.Fd} (h : FsIn w fa fs) (r : Fr no w w') : FsIn w' fa fs := fun k hk => by
  obtain ⟨b, o, ma, mc, h1, h2, h3⟩ := h k hk
  exact ⟨b, o, ma, mc, h1, h2.fr r, h3.fr r⟩
theorem SlIn.fr {sa : Option Addr} {l : List St} (h : SlIn w sa l) (r : Fr no w w') : SlIn w' sa l := fun k hk => by
  obtain ⟨b, o, fa, fc, h1, h2, h3⟩ := h k hk
  exact ⟨b, o, fa, fc, h1, h2.fr r, h3.fr r⟩

theorem cell_lt {b o : Nat} {v : Value} (h : w.cell? ⟨b, o, none⟩ = some v) : b < w.heap.size := by
  rcases Nat.lt_or_ge b w.heap.size with h1 | h1
  · exact h1
  · simp [World.cell?, Array.getElem?_eq_none h1] at h
theorem ce1 {b : Nat} {a0 : Value} {t : TypeId} (h : w.heap[b]? = some (.cells #[a0] t (0, 0))) : w.cell? ⟨b, 0, none⟩ = some a0 := cell_of_heap h rfl
theorem ce2 {b : Nat} {a0 a1 : Value} {t : TypeId} (h : w.heap[b]? = some (.cells #[a0, a1] t (0, 0))) : w.cell? ⟨b, 0, none⟩ = some a0 ∧ w.cell? ⟨b, 1, none⟩ = some a1 := ⟨cell_of_heap h rfl, cell_of_heap h rfl⟩
theorem ce3 {b : Nat} {a0 a1 a2 : Value} {t : TypeId} (h : w.heap[b]? = some (.cells #[a0, a1, a2] t (0, 0))) : w.cell? ⟨b, 0, none⟩ = some a0 ∧ w.cell? ⟨b, 1, none⟩ = some a1 ∧ w.cell? ⟨b, 2, none⟩ = some a2 := ⟨cell_of_heap h rfl, cell_of_heap h rfl, cell_of_heap h rfl⟩
theorem ce4 {b : Nat} {a0 a1 a2 a3 : Value} {t : TypeId} (h : w.heap[b]? = some (.cells #[a0, a1, a2, a3] t (0, 0))) : w.cell? ⟨b, 0, none⟩ = some a0 ∧ w.cell? ⟨b, 1, none⟩ = some a1 ∧ w.cell? ⟨b, 2, none⟩ = some a2 ∧ w.cell? ⟨b, 3, none⟩ = some a3 := ⟨cell_of_heap h rfl, cell_of_heap h rfl, cell_of_heap h rfl, cell_of_heap h rfl⟩

theorem wholeN_le (l : List St) (n i : Nat) : (wholeN l n i).1 ≤ 8193 := by
  cases n with
  | zero => exact Nat.zero_le _
  | succ n => unfold wholeN layM; exact Nat.min_le_right _ _
theorem whole_le (l : List St) (i : Nat) : (whole l i).1 ≤ 8193 := wholeN_le l _ _
theorem sizeB_le (b : Int) : sizeB b ≤ 8 := by
  unfold sizeB
  rw [List.getD_eq_getElem?_getD]
  rcases Nat.lt_or_ge b.toNat 9 with h | h
  · have : b.toNat = 0 ∨ b.toNat = 1 ∨ b.toNat = 2 ∨ b.toNat = 3 ∨ b.toNat = 4 ∨ b.toNat = 5 ∨ b.toNat = 6 ∨ b.toNat = 7 ∨ b.toNat = 8 := by omega
    rcases this with e | e | e | e | e | e | e | e | e <;> rw [e] <;> decide
  · rw [List.getElem?_eq_none (by simpa using h)]; decide
theorem baseM_le (l : List St) (t : Ty) : (baseM (whole l) t).1 ≤ 8193 := by
  unfold baseM
  split
  · exact whole_le l _
  · have := sizeB_le t.b
    simp only []
    omega
theorem modsM_le {b : Nat × Nat} (hb : b.1 ≤ 8193) (ms : List Int) : (modsM b ms).1 ≤ 8193 := by
  induction ms with
  | nil => exact hb
  | cons m r ih =>
    unfold modsM
    split
    · simp
    · exact Nat.min_le_right _ _
theorem ofM_le (l : List St) (t : Ty) : (ofM (whole l) t).1 ≤ 8193 := modsM_le (baseM_le l t) _

/-- whole answers for the structs below n -/
def WholeOk (l : List St) (n : Nat) : Prop := ∀ (w : World) (sa : Option Addr) (sc i : Nat), i < n → SlIn w sa l →
  Calls Tryd.prog 42 #[.slice sa l.length sc, .int .i64 i] w fun e w' => e = .returned (meas (whole l i)) ∧ Fr no w w'

theorem sizes_idx (b : Int) (h : 0 ≤ b ∧ b ≤ 8) (w : World) : (Instr.index 74 (.agg sizesC) (.int .i64 b)).run Tryd.prog w = .ok (.int .i64 (sizeB b)) w := by
  have : b = 0 ∨ b = 1 ∨ b = 2 ∨ b = 3 ∨ b = 4 ∨ b = 5 ∨ b = 6 ∨ b = 7 ∨ b = 8 := by omega
  rcases this with rfl | rfl | rfl | rfl | rfl | rfl | rfl | rfl | rfl
  all_goals
    clear h
    show _ = _
    kernel_rfl

def modsCaps (TB LB FB : Nat) : Array Value := #[.pointer (some ⟨TB, 0, none⟩), .pointer (some ⟨LB, 0, none⟩), .pointer (some ⟨FB, 0, none⟩)]

set_option maxRecDepth 100000 in
set_option maxHeartbeats 8000000 in
theorem mods_ok (l : List St) (n : Nat) (HW : WholeOk l n) (t : Ty) (ht : 0 ≤ t.b ∧ t.b ≤ 9) (TB LB FB : Nat) (sa ma : Option Addr) (sc ml mc : Nat) (rest : List Int)
    (hms : rest.all modB = true) (hlen : rest.length ≤ 1000) (hin : t.b = 9 → rest.contains (-1) = false → 0 ≤ t.s ∧ t.s < n) :
    ∀ (w : World) (ra : Option Addr) (rc : Nat), TIn w ra rc rest → SlIn w sa l →
      w.heap[TB]? = some (.cells #[.int .i64 t.b, .int .i64 t.s, .slice ma ml mc] 25 (0, 0)) → w.heap[LB]? = some (.cells #[.slice sa l.length sc] 22 (0, 0)) →
      w.heap[FB]? = some (.cells #[.func (.func 57) #[] (modsCaps TB LB FB)] 82 (0, 0)) →
      Calls Tryd.prog 57 #[.slice ra rest.length rc, .pointer (some ⟨TB, 0, none⟩), .pointer (some ⟨LB, 0, none⟩), .pointer (some ⟨FB, 0, none⟩)] w
        fun e w' => e = .returned (meas (modsM (baseM (whole l) t) rest)) ∧ Fr no w w' := by
  induction rest with
  | nil =>
    intro w ra rc hr hs hT hL hF
    have HS := Lib.hid hs
    have HR := Lib.hid ((Fr.refl no w).alloc (.cells #[.int .i64 0, .int .i64 0] 60))
    have HR0 := Lib.hid (heap_new w (.cells #[.int .i64 0, .int .i64 0] 60))
    obtain ⟨t0, t1, t2⟩ := ce3 (HR.out.heap hT (by simp))
    have l0 := ce1 (HR.out.heap hL (by simp))
    clear hT hL hF hr hs
    by_cases h9 : t.b = 9
    · have e9 : (t.b == 9) = true := by simpa using h9
      obtain ⟨hs0, hsn⟩ := hin h9 rfl
      have HM : Hid (modsM (baseM (whole l) t) [] = whole l t.s.toNat) := Lib.hid (by unfold modsM baseM; rw [if_pos h9])
      rw [HM.out]
      obtain ⟨tb, ts, tm⟩ := t
      dsimp only at *
      obtain ⟨s, rfl⟩ := Int.eq_ofNat_of_zero_le hs0
      rw [Int.toNat_natCast]
      have HC := Lib.hid (HW _ sa sc s (by omega) (HS.out.fr HR.out))
      generalize whole l s = ws at *
      clear h9 hs0 hsn hin HM
      go_enter Tryd.func57, Tryd.ntmps57
      go_wp2_with fail
      refine HC.out.mono ?_
      rintro e w2 ⟨rfl, r2⟩
      have HR2 := Lib.hid (r2.heap HR0.out (by simp))
      have R2 := Lib.hid (HR.out.trans r2)
      clear r2
      unfold meas
      go_wp2_with (refine wpList_store_row rfl 60 (.tmp 5) (.tmp 20) rfl w.heap.size #[.int .i64 ws.1, .int .i64 ws.2] rfl rfl _ _ HR2.out (by rw [infoMeas]; rfl) rfl (by simp [Value.oneCell']) ?_; rw [act_put_none])
      refine bodyPost_ret (results_cell rfl rfl (load_meas _ _ _ _ (setRow_heap _ _ _ _ _ _ HR2.out))) rfl ?_
      exact ⟨rfl, R2.out.trans' (fr_setRow (g := w.heap.size) (cs := #[.int .i64 ws.1, .int .i64 ws.2]) (Fr.refl (only [w.heap.size]) w2) (.inl (by simp))) (fun k hk _ => by simp at hk; omega)⟩
    · have e9 : (t.b == 9) = false := by simpa using h9
      have hb8 : 0 ≤ t.b ∧ t.b ≤ 8 := by omega
      have HSZ := Lib.hid (sizes_idx t.b hb8)
      have HM : Hid (modsM (baseM (whole l) t) [] = (sizeB t.b, sizeB t.b)) := Lib.hid (by unfold modsM baseM; rw [if_neg h9])
      rw [HM.out]
      generalize sizeB t.b = z at *
      clear h9 HM hin
      obtain ⟨tb, ts, tm⟩ := t
      dsimp only at *
      go_enter Tryd.func57, Tryd.ntmps57
      go_upto_region 4 with fail
      have HCZ := Lib.hid (sizes_ok (w.alloc (.cells #[.int .i64 0, .int .i64 0] 60)).drew)
      have t0' := Lib.hid ((Fr.refl no _).drew.cell t0 (by simp))
      have hsz := HSZ.out
      refine Lex.region [0] [5] (by kernel_rfl) (by kernel_rfl) ?_
      refine Lex.opens (fun w' => w'.cell? ⟨TB, 0, none⟩ = some (.int .i64 tb)) (t0'.out) ?_
      refine Lex.loud (by rfl) (by rfl) ?_
      intro K' hK'
      go_simp
      refine HCZ.out.mono ?_
      rintro e w2 ⟨rfl, r2⟩
      have R2 := Lib.hid (HR.out.trans ((Fr.refl no _).drew.trans r2))
      have T2 := Lib.hid (r2.cell t0'.out (by simp))
      have HR2 := Lib.hid (r2.heap ((Fr.refl no _).drew.heap HR0.out (by simp)) (by simp))
      clear r2 t0 t1 t2 l0 HCZ
      refine hK' _ _ (T2.out) ?_
      clear hK'
      try simp only [Act.put, List.setIfInBounds_toArray, List.set_cons_zero, List.set_cons_succ]
      repeat (first
        | (refine Lex.skips (by rfl) ?_; (try simp only [Act.put, List.setIfInBounds_toArray, List.set_cons_zero, List.set_cons_succ]))
        | (refine Lex.quiet (v := ?_) (by rfl) (by rfl) ?_ ?_; rotate_left; (focus (intro w' hS'; go_simp; try rfl)); (try simp only [Act.put, List.setIfInBounds_toArray, List.set_cons_zero, List.set_cons_succ])))
      refine Lex.done ?_
      refine Lex.ends ?_
      clear hsz
      go_wp2_with (refine wpList_store_row rfl 60 (.tmp 5) (.tmp 31) rfl w.heap.size #[.int .i64 z, .int .i64 z] rfl rfl _ _ HR2.out (by rw [infoMeas]; rfl) rfl (by simp [Value.oneCell']) ?_; rw [act_put_none])
      refine bodyPost_ret (results_cell rfl rfl (load_meas _ _ _ _ (setRow_heap _ _ _ _ _ _ HR2.out))) rfl ?_
      exact ⟨rfl, R2.out.trans' (fr_setRow (g := w.heap.size) (cs := #[.int .i64 z, .int .i64 z]) (Fr.refl (only [w.heap.size]) w2) (.inl (by simp))) (fun k hk _ => by simp at hk; omega)⟩
  | cons m rest ih =>
    intro w ra rc hr hs hT hL hF
    have HS := Lib.hid hs
    have HR := Lib.hid ((Fr.refl no w).alloc (.cells #[.int .i64 0, .int .i64 0] 60))
    have HR0 := Lib.hid (heap_new w (.cells #[.int .i64 0, .int .i64 0] 60))
    have HT1 := Lib.hid (HR.out.heap hT (by simp))
    have HL1 := Lib.hid (HR.out.heap hL (by simp))
    have HF1 := Lib.hid (HR.out.heap hF (by simp))
    obtain ⟨b, o, rfl, hm0, hc1, hc2, htl⟩ := reads_tail (v := .int .i64 m) (vs := ints rest) (by simpa [TIn, ints] using hr)
    have htl' : TIn w (if rc = 1 then some ⟨b, o, none⟩ else some ⟨b, o + 1, none⟩) (rc - 1) rest := by simpa [TIn, ints] using htl
    have hlr : (ints rest).length = rest.length := by simp [ints]
    rw [hlr] at hc1
    have m0 := HR.out.cell hm0 (by simp)
    have HBLT := Lib.hid (cell_lt hm0)
    obtain ⟨t0, t1, t2⟩ := ce3 HT1.out
    clear hT hL hF hs hr hm0 htl hlr
    by_cases hm : m = -1
    · subst hm
      have HM : Hid (modsM (baseM (whole l) t) (-1 :: rest) = (8, 8)) := Lib.hid rfl
      rw [HM.out]
      clear HM ih hms hin hlen
      have hz : (((rest.length + 1 : Nat) : Int) == 0) = false := by rw [beq_eq_false_iff_ne]; omega
      have hz2 : (0 : Int) < ((rest.length + 1 : Nat) : Int) := by omega
      rw [List.length_cons]
      go_enter Tryd.func57, Tryd.ntmps57
      go_wp2_with (refine wpList_store_row rfl 60 (.tmp 5) (.tmp 37) rfl w.heap.size #[.int .i64 8, .int .i64 8] rfl rfl _ _ HR0.out (by rw [infoMeas]; rfl) rfl (by simp [Value.oneCell']) ?_; rw [act_put_none])
      refine bodyPost_ret (results_cell rfl rfl (load_meas _ _ _ _ (setRow_heap _ _ _ _ _ _ HR0.out))) rfl ?_
      exact ⟨rfl, HR.out.trans' (fr_setRow (g := w.heap.size) (cs := #[.int .i64 8, .int .i64 8]) (Fr.refl (only [w.heap.size]) _) (.inl (by simp))) (fun k hk _ => by simp at hk; omega)⟩
    · have e1 : (m == -1) = false := by simpa using hm
      rw [List.all_cons, Bool.and_eq_true] at hms
      have hmb : 1 ≤ m ∧ m ≤ 8192 := by have := hms.1; unfold modB at this; simpa [hm] using this
      have hx := modsM_le (baseM_le l t) rest
      have HI := Lib.hid (ih hms.2 (by simp at hlen; omega) (fun h9 hc => hin h9 (by rw [List.contains_cons, hc, Bool.or_false, beq_eq_false_iff_ne]; exact fun e => hm e.symm)))
      have HM : Hid (modsM (baseM (whole l) t) (m :: rest) = (min ((modsM (baseM (whole l) t) rest).1 * m.toNat) 8193, (modsM (baseM (whole l) t) rest).2)) := Lib.hid (by rw [modsM, if_neg hm])
      rw [HM.out]
      have HX := Lib.hid htl'
      have hz : (((rest.length + 1 : Nat) : Int) == 0) = false := by rw [beq_eq_false_iff_ne]; omega
      have hz2 : (0 : Int) < ((rest.length + 1 : Nat) : Int) := by omega
      generalize modsM (baseM (whole l) t) rest = x2 at *
      have hR : rest.length ≤ 1000 := by simp at hlen; omega
      clear HM ih hms hin hm htl' hlen
      obtain ⟨x1, x2⟩ := x2
      obtain ⟨mn, rfl⟩ := Int.eq_ofNat_of_zero_le (show 0 ≤ m by omega)
      rw [Int.toNat_natCast] at *
      dsimp only at hx ⊢
      have hmn : 1 ≤ mn ∧ mn ≤ 8192 := by omega
      have hprod : x1 * mn ≤ 8193 * 8192 := Nat.mul_le_mul hx hmn.2
      rw [List.length_cons]
      obtain ⟨RB, hRB⟩ : ∃ b, b = w.heap.size := ⟨_, rfl⟩
      go_enter Tryd.func57, Tryd.ntmps57
      go_upto_region 8 with fail
      obtain ⟨ra1, hra⟩ : ∃ r, r = (if rc = 1 then some (⟨b, o, none⟩ : Addr) else some ⟨b, o + 1, none⟩) := ⟨_, rfl⟩
      rw [← hra] at HX
      have HRA := Lib.hid hra
      clear hra
      have HF2 : Hid ((w.alloc (.cells #[.int .i64 0, .int .i64 0] 60)).heap[FB]? = some (.cells #[.func (.func 57) #[] (modsCaps TB LB FB)] 82 (0, 0))) := HF1
      have M0 : Hid ((w.alloc (.cells #[.int .i64 0, .int .i64 0] 60)).cell? ⟨b, o, none⟩ = some (.int .i64 mn)) := Lib.hid m0
      clear HF1 m0
      generalize hw1 : w.alloc (.cells #[.int .i64 0, .int .i64 0] 60) = w1 at *
      clear hw1
      refine Inv.free _ [38, 39, 40, 41, 7] [⟨4, 3, 5, 7, 41, 60, 2⟩] (fun i => [38, 39, 40, 41].getD i 0) (fun i v _ => match i with | 0 => v = .func (.func 57) #[] (modsCaps TB LB FB) | 1 => v = .slice (some ⟨b, o, none⟩) (rest.length + 1) rc | 2 => v = .slice ra1 rest.length (rc - 1) | 3 => v = .agg #[.int .i64 x1, .int .i64 x2] | _ => True) (by kernel_rfl) (by kernel_rfl) (by decide) (by kernel_rfl) 52 rfl (by decide) ?_ ?_ ?_ ?_ ?_ ?_ ?_ ?_
      · exact fun i v w1 w2 S _ h _ _ => h
      · intro p hp
        simp only [List.mem_cons, List.not_mem_nil, or_false] at hp
        rcases hp with rfl
        · exact ⟨_, rfl, rfl, rfl⟩
      · intro p hp
        simp only [List.mem_cons, List.not_mem_nil, or_false] at hp
        rcases hp with rfl
        · exact ⟨_, rfl, rfl, rfl, ⟨⟨4, .data⟩, by simp, rfl, rfl⟩, ⟨⟨3, .data⟩, by simp, rfl, rfl⟩⟩
      · intro p hp
        simp only [List.mem_cons, List.not_mem_nil, or_false] at hp
        rcases hp with rfl
        · exact ⟨.agg #[.int .i64 0, .int .i64 0], fun w => (by kernel_rfl), rfl⟩
      · intro p hp
        simp only [List.mem_cons, List.not_mem_nil, or_false] at hp
        rcases hp with rfl
        · kernel_rfl
      · intro p hp
        simp only [List.mem_cons, List.not_mem_nil, or_false] at hp
        subst hp
        intro u w1 hu; exact ⟨_, hu, rfl, by simp [Value.oneCell']⟩
      · skip
        intro i o ho hs x dn wq rq hdep hV hnd hun hcl
        have hlt := (List.getElem?_eq_some_iff.1 ho).1
        simp only [List.length_cons, List.length_nil] at hlt
        obtain rfl | rfl | rfl | rfl | rfl | rfl : i = 0 ∨ i = 1 ∨ i = 2 ∨ i = 3 ∨ i = 4 ∨ i = 5 := by omega
        all_goals cases ho
        all_goals try (exact absurd hs (by decide))
        all_goals (unfold Inv.over; simp only [List.foldl_cons, List.foldl_nil, List.setIfInBounds_toArray, List.set_cons_zero, List.set_cons_succ])
        · have g1 := ce1 (rq.heap HF2.out (by simp))
          refine Inv.Step.value (v := .func (.func 57) #[] (modsCaps TB LB FB)) ?_ ⟨_, rfl, rfl, Fr.refl _ _⟩
          go_simp
        · skip
          refine Inv.Step.value (v := .slice (some ⟨b, o, none⟩) (rest.length + 1) rc) ?_ ⟨_, rfl, rfl, Fr.refl _ _⟩
          go_simp
        · skip
          have h0 : x 39 = .slice (some ⟨b, o, none⟩) (rest.length + 1) rc := hV 1 (hdep ⟨1, .data⟩ (by simp) rfl) rfl
          have h1' : (1 : Int) ≤ (rest.length : Int) + 1 := by omega
          rw [HRA.out]
          refine Inv.Step.value (v := .slice (if rc = 1 then some ⟨b, o, none⟩ else some ⟨b, o + 1, none⟩) rest.length (rc - 1)) ?_ ⟨_, rfl, rfl, Fr.refl _ _⟩
          go_simp
        · skip
          have h0 : x 38 = .func (.func 57) #[] (modsCaps TB LB FB) := hV 0 (hdep ⟨0, .data⟩ (by simp) rfl) rfl
          have h2 : x 40 = .slice ra1 rest.length (rc - 1) := hV 2 (hdep ⟨2, .data⟩ (by simp) rfl) rfl
          refine Inv.Step.callv 57 (modsCaps TB LB FB) _ _ _ rfl h0 (fun _ _ => rfl) _ h2 ?_
          have r := HR.out.trans rq
          refine (HI.out wq _ _ (HX.out.fr r) (HS.out.fr r) (rq.heap HT1.out (by simp)) (rq.heap HL1.out (by simp)) (rq.heap HF2.out (by simp))).mono ?_
          rintro e w2 ⟨rfl, r2⟩
          exact ⟨_, rfl, rfl, r2⟩
      · skip
        intro x wq rq hV hvar hne
        unfold Inv.over
        simp only [List.foldl_cons, List.foldl_nil, List.setIfInBounds_toArray, List.set_cons_zero, List.set_cons_succ]
        obtain ⟨b8, c8, y8, lb8, hb8, v8⟩ := hvar ⟨4, 3, 5, 7, 41, 60, 2⟩ (by simp)
        have h9 : x 41 = .agg #[.int .i64 x1, .int .i64 x2] := hV 3 (by decide) rfl
        dsimp only at y8 v8 hb8
        rw [h9] at v8
        cases v8
        rw [y8]
        have HB8 := Lib.hid hb8
        have R2 := Lib.hid (HR.out.trans rq)
        have HR2 := Lib.hid (rq.heap HR0.out (by simp))
        have M2 := Lib.hid (rq.cell M0.out (by simp))
        have HLB : Hid (w.heap.size ≤ b8 ∧ b8 ≠ w.heap.size) := Lib.hid (by
          have := HR.out.size
          have := (Array.getElem?_eq_some_iff.1 HR0.out).1
          omega)
        clear y8 hb8 h9 hV hvar hne rq lb8
        generalize x 38 = y38
        generalize x 39 = y39
        generalize x 40 = y40
        generalize x 41 = y41
        clear x M0 HF2 HT1 HL1 HX HI HR0 HR t0 t1 t2 HS HW
        have c8 := Lib.hid (ce2 HB8.out)
        have HD8 := Lib.hid ((Fr.refl no wq).drew)
        obtain ⟨p, hp⟩ : ∃ p, p = x1 * mn := ⟨_, rfl⟩
        have hwrap : IntKind.wrap .i64 ((x1 : Int) * (mn : Int)) = (p : Int) := by
          rw [IntKind.wrap_i64, ← Int.natCast_mul, ← hp]
          omega
        have HP := Lib.hid hp
        have HPW := Lib.hid hwrap
        clear hp
        go_upto_region 9 with fail
        refine Lex.region [10] [11] (by kernel_rfl) (by kernel_rfl) ?_
        refine Lex.opens (fun w' => w'.cell? ⟨b8, 0, none⟩ = some (.int .i64 x1) ∧ w'.cell? ⟨b8, 1, none⟩ = some (.int .i64 x2) ∧ w'.cell? ⟨b, o, none⟩ = some (.int .i64 mn)) (⟨HD8.out.cell c8.out.1 (by simp), HD8.out.cell c8.out.2 (by simp), HD8.out.cell M2.out (by simp)⟩) ?_
        repeat (first
          | (refine Lex.skips (by rfl) ?_; (try simp only [Act.put, List.setIfInBounds_toArray, List.set_cons_zero, List.set_cons_succ]))
          | (refine Lex.quiet (v := ?_) (by rfl) (by rfl) ?_ ?_; rotate_left; (focus (intro w' hS'; go_simp; try rfl)); (try simp only [Act.put, List.setIfInBounds_toArray, List.set_cons_zero, List.set_cons_succ])))
        refine Lex.loud (by rfl) (by rfl) ?_
        intro K' hK'
        have HR3 := Lib.hid (HD8.out.heap HR2.out (by simp))
        refine wp_store_row 60 (.tmp 5) (.tmp 51) rfl w.heap.size #[.int .i64 (min (p : Int) 8193), .int .i64 x2] rfl rfl _ _ HR3.out (by rw [infoMeas]; rfl) rfl (by simp [Value.oneCell']) ?_
        have rx : Fr (only [w.heap.size]) wq.drew (wq.drew.setRow w.heap.size #[.int .i64 (min (p : Int) 8193), .int .i64 x2]) := fr_setRow (Fr.refl _ _) (.inl (by simp))
        have hbb : b ≠ w.heap.size := by have := HBLT.out; omega
        refine hK' _ _ (⟨rx.cell (HD8.out.cell c8.out.1 (by simp)) (by have := HLB.out; simp; omega), rx.cell (HD8.out.cell c8.out.2 (by simp)) (by have := HLB.out; simp; omega), rx.cell (HD8.out.cell M2.out (by simp)) (by simp; exact hbb)⟩) ?_
        clear hK'
        try simp only [Act.put, List.setIfInBounds_toArray, List.set_cons_zero, List.set_cons_succ]
        refine Lex.done ?_
        refine Lex.ends ?_
        have HQ := Lib.hid (setRow_heap _ _ _ #[.int .i64 (min (p : Int) 8193), .int .i64 x2] _ _ HR3.out)
        have RQ := Lib.hid ((R2.out.trans HD8.out).trans' rx (fun k hk _ => by simp at hk; omega))
        clear rx
        generalize wq.drew.setRow w.heap.size #[.int .i64 (min (p : Int) 8193), .int .i64 x2] = w9 at *
        go_wp2_with fail
        refine bodyPost_ret (results_cell rfl rfl (load_meas _ _ _ _ HQ.out)) rfl ?_
        refine ⟨?_, RQ.out⟩
        rw [← HP.out]
        show Ending.returned (Value.agg #[.int .i64 (min (p : Int) 8193), .int .i64 x2]) = Ending.returned (Value.agg #[.int .i64 ((min p 8193 : Nat) : Int), .int .i64 x2])
        rw [show ((min p 8193 : Nat) : Int) = min (p : Int) 8193 from by omega]

end Go.Proofs.YtjpkmaacalelcaaDoor

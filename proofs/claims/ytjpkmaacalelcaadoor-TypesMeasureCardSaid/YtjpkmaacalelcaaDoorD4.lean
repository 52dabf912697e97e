/- Structs that were handed in, opened; kit's LongStructs (law24). -/
import Derived.Test.YtjpkmaacalelcaaDoorY22
set_option linter.unusedSimpArgs false
set_option linter.unusedVariables false
set_option linter.unusedSectionVars false
set_option linter.unnecessarySimpa false
set_option maxRecDepth 100000
namespace Go.Proofs.YtjpkmaacalelcaaDoor
open Go.RowKit Go.Ty Go.Deep

attribute [local go_sem] Program.isFuncB Program.isSliceB

variable {w w' w'' w0 : World}

theorem len_fours : ∀ (es : List Value), es.length = 4 → ∃ a b c d, es = [a, b, c, d]
  | [a, b, c, d], _ => ⟨a, b, c, d, rfl⟩
theorem ty_of {w : World} {n : Nat} {cs : List Value} {d : Dt} (h : Rd Tryd.prog w n 25 cs d) :
    ∃ (t : Ty) (ma : Option Addr) (mc : Nat), cs = [.int .i64 t.b, .int .i64 t.s, .slice ma t.ms.length mc] ∧ TIn w ma mc t.ms ∧ t.ms.length ≤ maxLen := by
  obtain ⟨fl, -, hlen, -, hf⟩ := h.fields (z := 3) Tryd.underlying25 (by kernel_rfl)
  obtain ⟨a0, a1, a2, rfl⟩ := len_three cs hlen
  obtain ⟨_, -, r0⟩ := hf 0 3 0 1 rfl (by kernel_rfl)
  obtain ⟨_, -, r1⟩ := hf 1 3 1 1 rfl (by kernel_rfl)
  obtain ⟨_, -, r2⟩ := hf 2 23 2 1 rfl (by kernel_rfl)
  obtain ⟨b, e0, -, -⟩ := r0.int Tryd.underlying3
  obtain ⟨s, e1, -, -⟩ := r1.int Tryd.underlying3
  obtain ⟨l, -, hr, -, hm⟩ := Rd.reads (v := a2) Tryd.underlying23 Tryd.underlying3 (by kernel_rfl) r2
  obtain ⟨ma, mc, rfl⟩ := hr.shape
  simp at e0 e1
  subst e0 e1
  exact ⟨⟨b, s, l⟩, ma, mc, rfl, hr, hm⟩
theorem fd_of {w : World} {n : Nat} {cs : List Value} {d : Dt} (h : Rd Tryd.prog w n 55 cs d) :
    ∃ (f : Ty.Fd) (ma : Option Addr) (mc : Nat), cs = [.string f.nm, .int .i64 f.t.b, .int .i64 f.t.s, .slice ma f.t.ms.length mc] ∧ TIn w ma mc f.t.ms ∧ f.t.ms.length ≤ maxLen ∧ f.nm.size ≤ maxLen := by
  obtain ⟨fl, -, hlen, -, hf⟩ := h.fields (z := 4) Tryd.underlying55 (by kernel_rfl)
  obtain ⟨a0, a1, a2, a3, rfl⟩ := len_fours cs hlen
  obtain ⟨_, -, r0⟩ := hf 0 9 0 1 rfl (by kernel_rfl)
  obtain ⟨_, -, r1⟩ := hf 1 25 1 3 rfl (by kernel_rfl)
  obtain ⟨s, e0, -, hs⟩ := r0.string Tryd.underlying9
  obtain ⟨t, ma, mc, e1, hr, hm⟩ := ty_of r1
  simp at e0 e1
  obtain ⟨rfl, rfl, rfl⟩ := e1
  subst e0
  exact ⟨⟨s, t⟩, ma, mc, rfl, hr, hm, hs⟩
/-- lengths that are some -/
structure RawS (l : List St) : Prop where
  few : l.length ≤ maxLen
  nm : ∀ s ∈ l, s.nm.size ≤ maxLen
  fs : ∀ s ∈ l, s.fs.length ≤ maxLen
  fn : ∀ s ∈ l, ∀ f ∈ s.fs, f.nm.size ≤ maxLen
  fm : ∀ s ∈ l, ∀ f ∈ s.fs, f.t.ms.length ≤ maxLen
theorem st_of {w : World} {n : Nat} {cs : List Value} {d : Dt} (h : Rd Tryd.prog w n 53 cs d) :
    ∃ (s : St) (fa : Option Addr) (fc : Nat), cs = [.string s.nm, .slice fa s.fs.length fc] ∧ FsIn w fa s.fs ∧ s.nm.size ≤ maxLen ∧ s.fs.length ≤ maxLen ∧ (∀ f ∈ s.fs, f.nm.size ≤ maxLen) ∧ ∀ f ∈ s.fs, f.t.ms.length ≤ maxLen := by
  obtain ⟨fl, -, hlen, -, hf⟩ := h.fields (z := 2) Tryd.underlying53 (by kernel_rfl)
  obtain ⟨a0, a1, rfl⟩ := len_two cs hlen
  obtain ⟨_, -, r0⟩ := hf 0 9 0 1 rfl (by kernel_rfl)
  obtain ⟨_, -, r1⟩ := hf 1 51 1 1 rfl (by kernel_rfl)
  obtain ⟨s, e0, -, hs⟩ := r0.string Tryd.underlying9
  simp at e0
  subst e0
  obtain ⟨l, sa, cap, -, hcs, h1, h2, h3, h4⟩ := Rd.rows (cs := [a1]) (z := 4) Tryd.underlying51 (by kernel_rfl) (by decide) r1
  obtain rfl : a1 = .slice sa l.length cap := by simpa using hcs
  have hd : ∀ i, i < l.length → ∃ f : Ty.Fd, (f.nm.size ≤ maxLen ∧ f.t.ms.length ≤ maxLen) ∧ ∃ b o ma mc, sa = some ⟨b, o, none⟩ ∧ At w b (o + i * 4) [.string f.nm, .int .i64 f.t.b, .int .i64 f.t.s, .slice ma f.t.ms.length mc] ∧ TIn w ma mc f.t.ms := by
    intro i hi
    obtain ⟨b, o, es, rfl, h5, h6, h7⟩ := h4 i hi
    obtain ⟨f, ma, mc, rfl, q1, q2, q3⟩ := fd_of h7
    exact ⟨f, ⟨q3, q2⟩, b, o, ma, mc, rfl, fun j v hj => h6 j v hj, q1⟩
  obtain ⟨fs, hl, hp⟩ := list_of_each hd
  refine ⟨⟨s, fs⟩, sa, cap, by rw [hl], fun k hk => (hp k hk).2, hs, by show fs.length ≤ maxLen; omega, fun f hf => ?_, fun f hf => ?_⟩
  · obtain ⟨k, hk, rfl⟩ := List.getElem_of_mem hf
    exact (hp k hk).1.1
  · obtain ⟨k, hk, rfl⟩ := List.getElem_of_mem hf
    exact (hp k hk).1.2
theorem sts_of {w : World} {n : Nat} {v : Value} {d : Dt} (h : Rd Tryd.prog w n 22 [v] d) :
    ∃ (l : List St) (sa : Option Addr) (sc : Nat), v = .slice sa l.length sc ∧ SlIn w sa l ∧ RawS l := by
  obtain ⟨l, sa, cap, -, hcs, h1, h2, h3, h4⟩ := Rd.rows (cs := [v]) (z := 2) Tryd.underlying22 (by kernel_rfl) (by decide) h
  obtain rfl : v = .slice sa l.length cap := by simpa using hcs
  have hd : ∀ i, i < l.length → ∃ s : St, (s.nm.size ≤ maxLen ∧ s.fs.length ≤ maxLen ∧ (∀ f ∈ s.fs, f.nm.size ≤ maxLen) ∧ ∀ f ∈ s.fs, f.t.ms.length ≤ maxLen) ∧ ∃ b o fa fc, sa = some ⟨b, o, none⟩ ∧ At w b (o + i * 2) [.string s.nm, .slice fa s.fs.length fc] ∧ FsIn w fa s.fs := by
    intro i hi
    obtain ⟨b, o, es, rfl, h5, h6, h7⟩ := h4 i hi
    obtain ⟨s, fa, fc, rfl, q1, q2⟩ := st_of h7
    exact ⟨s, q2, b, o, fa, fc, rfl, fun j v hj => h6 j v hj, q1⟩
  obtain ⟨ss, hl, hp⟩ := list_of_each hd
  refine ⟨ss, sa, cap, by rw [hl], fun k hk => (hp k hk).2, ⟨by omega, fun s hs => ?_, fun s hs => ?_, fun s hs => ?_, fun s hs => ?_⟩⟩
  all_goals obtain ⟨k, hk, rfl⟩ := List.getElem_of_mem hs
  · exact (hp k hk).1.1
  · exact (hp k hk).1.2.1
  · exact (hp k hk).1.2.2.1
  · exact (hp k hk).1.2.2.2

theorem wpList_guarded {P : Program} {ops : Array Oper} {Q : Exit → Act → World → Prop} {a : Act} {w : World} {rest : List Oper} {o : Oper} (hw : Region.wanted o (yielded ops a.tmps) = true)
    (h : ∀ K : Act → World → Prop, (∀ a w, wpList P ops Q rest a w → K a w) → o.wp P a w K Q) : wpList P ops Q (o :: rest) a w := by
  unfold wpList
  rw [if_pos hw]
  exact .inl (h _ (fun a w h => h))
theorem wp_load_in {P : Program} {w : World} {o : Oper} {a : Act} {K : Act → World → Prop} {Q : Exit → Act → World → Prop} (ty : TypeId) (x : Operand) (ho : o.op = .load ty x)
    (g q : Nat) (hx : a.eval x = .pointer (some ⟨g, q, none⟩)) (cs : List Value) (d : TypeDesc) (hS : At w g q cs) (hu : P.underlying ty = some d)
    (hd : (match d with | .struct _ | .array _ _ => true | _ => false) = true) (hi : (P.info? ty).map (·.size) = some cs.length)
    (h : K (a.put o.dst (.agg cs.toArray)) w) : o.wp P a w K Q := by
  unfold Oper.wp execOp
  simp only [ho, hx, Instr.loadAt, Instr.sureAddr, Sem.run_bind, Sem.run_pure, Result.andThen_ok, run_loadVar_in w g q ty cs d hS hu hd hi]
  exact h

/-- structs that are not long -/
def FewS (s : St) : Prop := s.nm.size ≤ 40 ∧ s.fs.length ≤ 20 ∧ ∀ f ∈ s.fs, f.nm.size ≤ 40 ∧ f.t.ms.length ≤ 12
def SmallS (l : List St) : Prop := l.length ≤ 8 ∧ ∀ s ∈ l, FewS s
def LongS (w : World) (l : List St) (e : Ending) (w' : World) : Prop := ∃ q : Bool, e = .returned (.bool q) ∧ (q = false → SmallS l) ∧ Fr no w w'
theorem LongS.of {l : List St} (q : Bool) (hq : q = false → SmallS l) (r : Fr no w w') : LongS w l (.returned (.bool q)) w' := ⟨q, rfl, hq, r⟩

set_option maxRecDepth 100000 in
set_option maxHeartbeats 4000000 in
theorem longs_ok (w : World) (sa : Option Addr) (sc : Nat) (l : List St) (hs : SlIn w sa l) (hr : RawS l) :
    Calls Tryd.prog 7 #[.slice sa l.length sc] w (LongS w l) := by
  have HS := Lib.hid hs
  have HR := Lib.hid hr
  have hl2 : l.length ≤ 9223372036854775807 := by have := hr.few; unfold maxLen at this; exact this
  clear hs hr
  go_enter Tryd.func7, Tryd.ntmps7
  go_upto_region 2 with fail
  go_loopw [3, 4] (fun x y wr => ∃ i : Nat, x = .int .i64 i ∧ i ≤ l.length ∧ i ≤ 9 ∧ Hid (∀ j (h : j < l.length), j < i → FewS l[j]) ∧ Hid (Fr no w wr)) (fun x _ _ => (9 - intOf x).toNat)
  case atStart => exact ⟨0, rfl, by omega, by omega, Lib.hid (fun j h h0 => by omega), Lib.hid (Fr.refl _ _)⟩
  case round =>
    obtain ⟨i, rfl, hi, hi9, hpre, hfr⟩ := hrel
    by_cases hlt : i < l.length
    · have hlt' : (i : Int) < l.length := by omega
      by_cases h9 : i < 9
      · have h9' : (i : Int) < 9 := by omega
        obtain ⟨b, o, fa, fc, rfl, hA, hF⟩ := HS.out.fr hfr.out i hlt
        have c0 := hA 0 _ rfl
        have c1 := hA 1 _ rfl
        rw [Nat.add_zero] at c0
        have HF := Lib.hid hF
        have HG := Lib.hid (HR.out.fn l[i] (List.getElem_mem hlt))
        have HFM := Lib.hid (HR.out.fm l[i] (List.getElem_mem hlt))
        have hnz := HR.out.nm l[i] (List.getElem_mem hlt)
        have hfz := HR.out.fs l[i] (List.getElem_mem hlt)
        unfold maxLen at hnz hfz
        have HN : Hid (FewS l[i] → ∀ j (h : j < l.length), j < i + 1 → FewS l[j]) := Lib.hid (fun hw j h hj => by
          rcases Nat.lt_or_ge j i with h2 | h2
          · exact hpre.out j h h2
          · have : j = i := by omega
            subst this; exact hw)
        have HFS : Hid (FewS l[i] ↔ l[i].nm.size ≤ 40 ∧ l[i].fs.length ≤ 20 ∧ ∀ f ∈ l[i].fs, f.nm.size ≤ 40 ∧ f.t.ms.length ≤ 12) := Lib.hid Iff.rfl
        generalize FewS l[i] = few at *
        obtain ⟨nm, hnm⟩ : ∃ x, x = l[i].nm := ⟨_, rfl⟩
        obtain ⟨fs, hfs⟩ : ∃ x, x = l[i].fs := ⟨_, rfl⟩
        rw [← hnm] at c0 hnz HFS
        rw [← hfs] at c1 hfz HF HG HFM HFS
        clear hA hF hpre hnm hfs
        by_cases hn40 : nm.size ≤ 40
        case neg =>
          have hn40' : (40 : Int) < nm.size := by omega
          clear hn40
          go_wp2_with fail
          go_ret
          exact LongS.of true (fun h => by cases h) hfr.out
        have hn40' : ¬ (40 : Int) < nm.size := by omega
        by_cases hf20 : fs.length ≤ 20
        case neg =>
          have hf20' : (20 : Int) < fs.length := by omega
          clear hf20
          go_wp2_with fail
          go_ret
          exact LongS.of true (fun h => by cases h) hfr.out
        have hf20' : ¬ (20 : Int) < fs.length := by omega
        go_upto_region 7 with fail
        have C1 := Lib.hid c1
        clear c0 c1
        obtain ⟨wz, hwz⟩ : ∃ x, x = wr := ⟨_, rfl⟩
        subst hwz
        have HO := Lib.hid hfr.out
        go_loopw [4] (fun y wr => ∃ k : Nat, y = .int .i64 k ∧ k ≤ fs.length ∧ Hid (∀ f ∈ fs.take k, f.nm.size ≤ 40 ∧ f.t.ms.length ≤ 12) ∧ Hid (Fr no wz wr)) (fun y _ => (fs.length - intOf y).toNat)
        case atStart => exact ⟨0, rfl, by omega, Lib.hid (by simp), Lib.hid (Fr.refl _ _)⟩
        case round =>
          obtain ⟨k, rfl, hk, hpre2, hfr2⟩ := hrel
          have c1 := hfr2.out.cell C1.out (by simp)
          have R2 := Lib.hid (HO.out.trans hfr2.out)
          by_cases hkl : k < fs.length
          · have hkl' : (k : Int) < fs.length := by omega
            obtain ⟨b2, o2, ma, mc, rfl, hB, hM⟩ := HF.out.fr hfr2.out k hkl
            have d0 := hB 0 _ rfl
            have d1 := hB 1 _ rfl
            have d2 := hB 2 _ rfl
            have d3 := hB 3 _ rfl
            have HAT : Hid (At wr b2 (o2 + k * 4 + 1) [.int .i64 fs[k].t.b, .int .i64 fs[k].t.s, .slice ma fs[k].t.ms.length mc]) := Lib.hid (fun j v hj => by
              have := hB (j + 1) v (by simpa using hj)
              rwa [← Nat.add_assoc, Nat.add_right_comm] at this)
            rw [Nat.add_zero] at d0
            have hz := HG.out fs[k] (List.getElem_mem hkl)
            have hy := HFM.out fs[k] (List.getElem_mem hkl)
            unfold maxLen at hz hy
            have HN3 : Hid (fs[k].nm.size ≤ 40 → fs[k].t.ms.length ≤ 12 → ∀ f ∈ fs.take (k + 1), f.nm.size ≤ 40 ∧ f.t.ms.length ≤ 12) := Lib.hid (fun h1 h2 f hf => by
              rw [List.take_succ_eq_append_getElem hkl, List.mem_append, List.mem_singleton] at hf
              rcases hf with hf | rfl
              · exact hpre2.out f hf
              · exact ⟨h1, h2⟩)
            generalize fs[k].nm = fnm at *
            generalize fs[k].t.b = tb at *
            generalize fs[k].t.s = ts at *
            generalize fs[k].t.ms.length = ml at *
            clear hB hM hpre2 d1 d2 d3
            by_cases hq : fnm.size ≤ 40
            case neg =>
              have hq' : (40 : Int) < fnm.size := by omega
              clear hq
              go_wp2_with fail
              go_ret
              exact LongS.of true (fun h => by cases h) R2.out
            have hq' : ¬ (40 : Int) < fnm.size := by omega
            go_wp2_with (refine wpList_guarded (by rfl) ?_; intro KK hKK; refine wp_load_in 25 (.tmp 60) rfl b2 (o2 + k * 4 + 1) rfl _ _ HAT.out Tryd.underlying25 rfl (by rw [infoTy]; rfl) ?_; refine hKK _ _ ?_; clear hKK; simp only [Act.put, List.setIfInBounds_toArray, List.set_cons_zero, List.set_cons_succ])
            refine (longt_ok wr tb ts ma ml mc).mono ?_
            rintro e w3 ⟨rfl, r3⟩
            have R3 := Lib.hid (R2.out.trans r3)
            have HZ3 := Lib.hid (hfr2.out.trans r3)
            clear r3 c1 hfr2
            by_cases hml : 12 < ml
            · rw [decide_eq_true hml]
              clear hml
              go_wp2_with fail
              go_ret
              exact LongS.of true (fun h => by cases h) R3.out
            · rw [decide_eq_false hml]
              have HN4 := Lib.hid (HN3.out hq (by omega))
              clear hml
              go_wp2_with fail
              go_roundw
              case rel => exact ⟨k + 1, by go_num, by omega, HN4, HZ3⟩
              case measure => first | (simp [intOf]; done) | (simp [intOf]; omega)
          · obtain rfl : k = fs.length := by omega
            have HW : Hid few := Lib.hid (HFS.out.2 ⟨hn40, hf20, by have := hpre2.out; rwa [List.take_length] at this⟩)
            have HN5 := Lib.hid (HN.out HW.out)
            clear hkl hpre2
            go_wp2_with fail
            go_roundw
            case rel => exact ⟨i + 1, by go_num, by omega, by omega, HN5, R2⟩
            case measure => first | (simp [intOf]; done) | (simp [intOf]; omega)
      · obtain rfl : i = 9 := by omega
        have h8 : (8 : Int) < l.length := by omega
        clear hpre
        go_wp2_with fail
        go_ret
        exact LongS.of true (fun h => by cases h) hfr.out
    · obtain rfl : i = l.length := by omega
      by_cases h8 : l.length ≤ 8
      · have h8' : ¬ (8 : Int) < l.length := by omega
        have HQ : Hid (SmallS l) := Lib.hid ⟨h8, fun s hs => by
          obtain ⟨j, hj, rfl⟩ := List.getElem_of_mem hs
          exact hpre.out j hj hj⟩
        clear hpre hlt h8
        go_wp2_with fail
        go_ret
        exact LongS.of false (fun _ => HQ.out) hfr.out
      · have h8' : (8 : Int) < l.length := by omega
        clear hpre hlt h8
        go_wp2_with fail
        go_ret
        exact LongS.of true (fun h => by cases h) hfr.out

end Go.Proofs.YtjpkmaacalelcaaDoor

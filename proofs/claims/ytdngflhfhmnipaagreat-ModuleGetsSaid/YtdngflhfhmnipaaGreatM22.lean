/- A module that was handed in, opened; kit's LongModule. -/
import Derived.Test.YtdngflhfhmnipaaGreatM21
set_option linter.unusedSimpArgs false
set_option linter.unusedVariables false
set_option linter.unusedSectionVars false
set_option linter.unnecessarySimpa false
namespace Go.Proofs.YtdngflhfhmnipaaGreat
open Go.RowKit

attribute [local go_sem] Program.isFuncB Program.isSliceB

variable {w w' w'' w0 : World}

theorem len_four : ∀ (es : List Value), es.length = 4 → ∃ a b c d, es = [a, b, c, d]
  | [a, b, c, d], _ => ⟨a, b, c, d, rfl⟩
/-- numbers that are some, of lengths that are some -/
structure Mx.Raw (m : Mx) : Prop where
  data : m.d.length ≤ maxLen
  fns : m.f.length ≤ maxLen
  code : ∀ f ∈ m.f, f.c.length ≤ maxLen
  args : ∀ f ∈ m.f, ∀ i ∈ f.c, i.l.length ≤ maxLen
  n : ∀ f ∈ m.f, ∀ i ∈ f.c, rng i.N
  lt : ∀ b ∈ m.d, b < 256
theorem fn_of {n : Nat} {cs : List Value} {d : Dt} (h : Rd Tryz.prog w n 44 cs d) : ∃ (f : Fx) (ca : Option Addr) (cc : Nat), cs = f.cells (.slice ca f.c.length cc) ∧ CodeIn w ca f.c ∧ f.c.length ≤ maxLen ∧ (∀ i ∈ f.c, i.l.length ≤ maxLen) ∧ ∀ i ∈ f.c, rng i.N := by
  obtain ⟨fl, -, hlen, -, hf⟩ := h.fields (z := 4) Tryz.underlying44 (by kernel_rfl)
  obtain ⟨a0, a1, a2, a3, rfl⟩ := len_four cs hlen
  obtain ⟨_, -, r0⟩ := hf 0 3 0 1 rfl (by kernel_rfl)
  obtain ⟨_, -, r1⟩ := hf 1 3 1 1 rfl (by kernel_rfl)
  obtain ⟨_, -, r2⟩ := hf 2 3 2 1 rfl (by kernel_rfl)
  obtain ⟨_, -, r3⟩ := hf 3 42 3 1 rfl (by kernel_rfl)
  obtain ⟨p, e0, -, -⟩ := r0.int Tryz.underlying3
  obtain ⟨r, e1, -, -⟩ := r1.int Tryz.underlying3
  obtain ⟨a, e2, -, -⟩ := r2.int Tryz.underlying3
  obtain ⟨sa, c, is, e3, h1, h2, h3, h4⟩ := code_of (v := a3) r3
  simp at e0 e1 e2
  subst e0 e1 e2 e3
  exact ⟨⟨p, r, a, is⟩, sa, c, rfl, h1, h2, h3, h4⟩
theorem mod_of {n : Nat} {cs : List Value} {d : Dt} (h : Rd Tryz.prog w n 25 cs d) : ∃ (m : Mx) (da : Option Addr) (dc : Nat) (fa : Option Addr) (fc : Nat), cs = [.slice da m.d.length dc, .slice fa m.f.length fc] ∧ ModIn w m da dc fa ∧ m.Raw := by
  obtain ⟨fl, -, hlen, -, hf⟩ := h.fields (z := 2) Tryz.underlying25 (by kernel_rfl)
  obtain ⟨a0, a1, rfl⟩ := len_two cs hlen
  obtain ⟨_, -, r0⟩ := hf 0 22 0 1 rfl (by kernel_rfl)
  obtain ⟨_, -, r1⟩ := hf 1 23 1 1 rfl (by kernel_rfl)
  obtain ⟨bs, hr, hlt, hm⟩ := bytes_of (v := a0) r0
  obtain ⟨da, dc, rfl⟩ := hr.shape
  obtain ⟨l, sa, cap, -, hcs, h1, h2, h3, h4⟩ := Rd.rows (cs := [a1]) (z := 4) Tryz.underlying23 (by kernel_rfl) (by decide) r1
  obtain rfl : a1 = .slice sa l.length cap := by simpa using hcs
  have hd : ∀ i, i < l.length → ∃ f : Fx, (f.c.length ≤ maxLen ∧ (∀ j ∈ f.c, j.l.length ≤ maxLen) ∧ ∀ j ∈ f.c, rng j.N) ∧ ∃ b o ca cc, sa = some ⟨b, o, none⟩ ∧ FnIn w b (o + i * 4) f ca cc := by
    intro i hi
    obtain ⟨b, o, es, rfl, h5, h6, h7⟩ := h4 i hi
    obtain ⟨f, ca, cc, rfl, q1, q2, q3, q4⟩ := fn_of h7
    exact ⟨f, ⟨q2, q3, q4⟩, b, o, ca, cc, rfl, ⟨fun j v hj => h6 j v hj, q1⟩⟩
  obtain ⟨fs, hl, hp⟩ := list_of_each hd
  refine ⟨⟨bs, fs⟩, da, dc, sa, cap, by rw [hl], ⟨hr, fun k hk => (hp k hk).2⟩, ⟨hm, by show fs.length ≤ maxLen; omega, fun f hf => ?_, fun f hf => ?_, fun f hf => ?_, hlt⟩⟩
  · obtain ⟨k, hk, rfl⟩ := List.getElem_of_mem hf
    exact (hp k hk).1.1
  · obtain ⟨k, hk, rfl⟩ := List.getElem_of_mem hf
    exact (hp k hk).1.2.1
  · obtain ⟨k, hk, rfl⟩ := List.getElem_of_mem hf
    exact (hp k hk).1.2.2

def Few (f : Fx) : Prop := f.c.length ≤ 60 ∧ ∀ i ∈ f.c, i.l.length ≤ 20
def LongM (w : World) (m : Mx) (e : Ending) (w' : World) : Prop := ∃ q : Bool, e = .returned (.bool q) ∧ (q = false → m.d.length ≤ 300 ∧ m.f.length ≤ 6 ∧ ∀ f ∈ m.f, Few f) ∧ Fr no w w'
theorem LongM.of {m : Mx} (q : Bool) (hq : q = false → m.d.length ≤ 300 ∧ m.f.length ≤ 6 ∧ ∀ f ∈ m.f, Few f) (r : Fr no w w') : LongM w m (.returned (.bool q)) w' := ⟨q, rfl, hq, r⟩
theorem LongM.small {m : Mx} (hr : m.Raw) (h : m.d.length ≤ 300 ∧ m.f.length ≤ 6 ∧ ∀ f ∈ m.f, Few f) : m.Small :=
  ⟨by omega, by omega, fun f hf => ⟨by have := (h.2.2 f hf).1; omega, fun i hi => by have := (h.2.2 f hf).2 i hi; omega⟩, hr.lt⟩

set_option maxRecDepth 100000 in
set_option maxHeartbeats 8000000 in
theorem longm_ok (w : World) (m : Mx) (da : Option Addr) (dc : Nat) (fa : Option Addr) (fc : Nat) (hm : ModIn w m da dc fa) (hr : m.Raw) :
    Calls Tryz.prog 5 #[.agg #[.slice da m.d.length dc, .slice fa m.f.length fc]] w (LongM w m) := by
  obtain ⟨ds, fs⟩ := m
  obtain ⟨q1, q2, q3, q4, -, -⟩ := hr
  dsimp only at q1 q2 q3 q4 ⊢
  unfold maxLen at q1 q2 q3 q4
  have HC := Lib.hid q3
  have HAR := Lib.hid q4
  have HI := Lib.hid (modObj w (.slice da ds.length dc) (.slice fa fs.length fc))
  have r0 := (Fr.refl no w).alloc (.cells #[.slice da ds.length dc, .slice fa fs.length fc] 25)
  have R0 := Lib.hid r0
  have HF := Lib.hid (hm.fns.fr r0)
  clear q3 q4 r0 hm
  go_enter Tryz.func5, Tryz.ntmps5
  obtain ⟨c0, c1⟩ := cells2 HI.out
  by_cases h1 : 300 < ds.length
  · have h1' : (300 : Int) < ds.length := by omega
    go_wp2_with fail
    go_ret
    exact LongM.of true (fun h => by cases h) R0.out
  have h1' : ¬ (300 : Int) < ds.length := by omega
  by_cases h2 : 6 < fs.length
  · have h2' : (6 : Int) < fs.length := by omega
    go_wp2_with fail
    go_ret
    exact LongM.of true (fun h => by cases h) R0.out
  have h2' : ¬ (6 : Int) < fs.length := by omega
  go_wp2_with fail
  generalize w.alloc (.cells #[.slice da ds.length dc, .slice fa fs.length fc] 25) = wz at *
  go_loopw [3] (fun x wr => ∃ k : Nat, k ≤ fs.length ∧ x = .int .i64 k ∧ Hid (∀ f ∈ fs.take k, Few f) ∧ wr = wz) (fun x _ => (fs.length - intOf x).toNat)
  case atStart => exact ⟨0, by omega, rfl, Lib.hid (by simp), rfl⟩
  case round =>
    obtain ⟨k, hk, rfl, hpre, rfl⟩ := hrel
    by_cases hks : k < fs.length
    · have hks' : (k : Int) < fs.length := by omega
      obtain ⟨b, of, ca, cc, rfl, hi⟩ := HF.out k hks
      have d3 := hi.four.2.2.2
      have hcl := HC.out _ (List.getElem_mem hks)
      have HCI := Lib.hid hi.code
      have HA2 := Lib.hid (HAR.out _ (List.getElem_mem hks))
      have HN : Hid (Few fs[k] → ∀ f ∈ fs.take (k + 1), Few f) := Lib.hid (fun h f hf => by
        rw [List.take_succ_eq_append_getElem hks, List.mem_append, List.mem_singleton] at hf
        rcases hf with hf | rfl
        · exact hpre.out f hf
        · exact h)
      have HFW : Hid (Few fs[k] ↔ fs[k].c.length ≤ 60 ∧ ∀ i ∈ fs[k].c, i.l.length ≤ 20) := Lib.hid Iff.rfl
      generalize Few fs[k] = few at *
      generalize fs[k].c = is at *
      clear hi
      by_cases h3 : 60 < is.length
      · have h3' : (60 : Int) < is.length := by omega
        go_wp2_with fail
        go_ret
        exact LongM.of true (fun h => by cases h) R0.out
      have h3' : ¬ (60 : Int) < is.length := by omega
      obtain ⟨wy, hwy⟩ : ∃ x, x = wr := ⟨_, rfl⟩
      subst hwy
      go_wp2_with fail
      go_loopw [4] (fun x wr => ∃ j : Nat, j ≤ is.length ∧ x = .int .i64 j ∧ Hid (∀ i ∈ is.take j, i.l.length ≤ 20) ∧ wr = wy) (fun x _ => (is.length - intOf x).toNat)
      case atStart => exact ⟨0, by omega, rfl, Lib.hid (by simp), rfl⟩
      case round =>
        obtain ⟨j, hj, rfl, hp2, rfl⟩ := hrel
        by_cases hjs : j < is.length
        · have hjs' : (j : Int) < is.length := by omega
          obtain ⟨b2, of2, u, rfl, hi⟩ := HCI.out j hjs
          obtain ⟨ua, uc, rfl⟩ := hi.args.shape
          have c5 := hi.six.2.2.2.2.2
          have hal := HA2.out is[j] (List.getElem_mem _)
          have HN2 : Hid (is[j].l.length ≤ 20 → ∀ i ∈ is.take (j + 1), i.l.length ≤ 20) := Lib.hid (fun h i hi => by
            rw [List.take_succ_eq_append_getElem hjs, List.mem_append, List.mem_singleton] at hi
            rcases hi with hi | rfl
            · exact hp2.out i hi
            · exact h)
          generalize is[j].l.length = al at *
          clear hi
          by_cases h20 : al ≤ 20
          · have h20' : ¬ (20 : Int) < al := by omega
            have HN3 := Lib.hid (HN2.out h20)
            go_wp2_with fail
            go_roundw
            case rel => exact ⟨j + 1, by omega, by go_num, HN3, by trivial⟩
            case measure => first | (simp [intOf]; done) | (simp [intOf]; omega)
          · have h20' : (20 : Int) < al := by omega
            go_wp2_with fail
            go_ret
            exact LongM.of true (fun h => by cases h) R0.out
        · obtain rfl : j = is.length := by omega
          have HP : Hid few := Lib.hid (HFW.out.2 ⟨by omega, by have := hp2.out; rwa [List.take_length] at this⟩)
          have HP2 := Lib.hid (HN.out HP.out)
          go_wp2_with fail
          go_roundw
          case rel => exact ⟨k + 1, by omega, by go_num, HP2, by trivial⟩
          case measure => first | (simp [intOf]; done) | (simp [intOf]; omega)
    · obtain rfl : k = fs.length := by omega
      have HP := hpre.out
      rw [List.take_length] at HP
      have HPH := Lib.hid HP
      clear HP hpre
      go_wp2_with fail
      go_ret
      exact LongM.of false (fun _ => ⟨by show ds.length ≤ 300; omega, by show fs.length ≤ 6; omega, HPH.out⟩) R0.out

end Go.Proofs.YtdngflhfhmnipaaGreat

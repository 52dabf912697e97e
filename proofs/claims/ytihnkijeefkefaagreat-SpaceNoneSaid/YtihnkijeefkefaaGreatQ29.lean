import Derived.Test.YtihnkijeefkefaaGreatQ26
set_option linter.unusedSimpArgs false
set_option linter.unusedVariables false
set_option linter.unusedSectionVars false
set_option linter.unnecessarySimpa false
set_option maxRecDepth 100000
/- Calls as they are handed in. -/
namespace Go.Proofs.YtihnkijeefkefaaGreat
open Go.RowKit

attribute [local go_sem] Program.isFuncB Program.isSliceB

variable {w w' w'' w0 : World}

structure Ax where
  k : Int
  r : Int
  n : Int
  b : Int
  v : Nat
  l : List Int
  ek : Int
  ec : Int
def Ax.cells (x : Ax) (u : Value) : List Value := [.int .i64 x.k, .int .i64 x.r, .int .i64 x.n, .int .i64 x.b, .int .u64 x.v, u, .int .i64 x.ek, .int .i64 x.ec]
/-- a call's numbers, as they may be -/
structure Ax.Fine (x : Ax) : Prop where
  n0 : -9223372036854775808 ≤ x.n
  n1 : x.n < 9223372036854775808
  v1 : x.v < 18446744073709551616
  l1 : x.l.length ≤ maxLen
theorem len_eight : ∀ (es : List Value), es.length = 8 → ∃ a b c d e f g h, es = [a, b, c, d, e, f, g, h]
  | [a, b, c, d, e, f, g, h], _ => ⟨a, b, c, d, e, f, g, h, rfl⟩
theorem act_of {n : Nat} {cs : List Value} {d : Dt} (h : Rd Tryz.prog w n 57 cs d) : ∃ (x : Ax) (ua : Option Addr) (uc : Nat), cs = x.cells (.slice ua x.l.length uc) ∧ Reads w (.slice ua x.l.length uc) 1 x.l.length (ints x.l) ∧ x.Fine := by
  obtain ⟨fl, -, hlen, -, hf⟩ := h.fields (z := 8) Tryz.underlying57 (by kernel_rfl)
  obtain ⟨a0, a1, a2, a3, a4, a5, a6, a7, rfl⟩ := len_eight cs hlen
  obtain ⟨_, -, r0⟩ := hf 0 3 0 1 rfl (by kernel_rfl)
  obtain ⟨_, -, r1⟩ := hf 1 3 1 1 rfl (by kernel_rfl)
  obtain ⟨_, -, r2⟩ := hf 2 3 2 1 rfl (by kernel_rfl)
  obtain ⟨_, -, r3⟩ := hf 3 3 3 1 rfl (by kernel_rfl)
  obtain ⟨_, -, r4⟩ := hf 4 34 4 1 rfl (by kernel_rfl)
  obtain ⟨_, -, r5⟩ := hf 5 26 5 1 rfl (by kernel_rfl)
  obtain ⟨_, -, r6⟩ := hf 6 43 6 2 rfl (by kernel_rfl)
  obtain ⟨k, e0, -, -⟩ := r0.int Tryz.underlying3
  obtain ⟨r, e1, -, -⟩ := r1.int Tryz.underlying3
  obtain ⟨nn, e2, -, w2⟩ := r2.int Tryz.underlying3
  obtain ⟨b, e3, -, -⟩ := r3.int Tryz.underlying3
  obtain ⟨v, e4, -, w4⟩ := r4.int Tryz.underlying34
  obtain ⟨l, -, hr, hz, hm⟩ := Rd.reads (v := a5) Tryz.underlying26 Tryz.underlying3 (by kernel_rfl) r5
  obtain ⟨fl2, -, hlen2, -, hf2⟩ := r6.fields (z := 2) Tryz.underlying43 (by kernel_rfl)
  obtain ⟨_, -, q0⟩ := hf2 0 3 0 1 rfl (by kernel_rfl)
  obtain ⟨_, -, q1⟩ := hf2 1 3 1 1 rfl (by kernel_rfl)
  obtain ⟨ek, e6, -, -⟩ := q0.int Tryz.underlying3
  obtain ⟨ec, e7, -, -⟩ := q1.int Tryz.underlying3
  simp at e0 e1 e2 e3 e4 e6 e7
  subst e0 e1 e2 e3 e4 e6 e7
  have h8 : IntKind.i64.min ≤ nn ∧ nn ≤ IntKind.i64.max := by simpa [Lit.wf] using w2
  have h9 : IntKind.i64.min = -9223372036854775808 := by decide
  have h10 : IntKind.i64.max = 9223372036854775807 := by decide
  have h11 : IntKind.u64.min ≤ v ∧ v ≤ IntKind.u64.max := by simpa [Lit.wf] using w4
  have h12 : IntKind.u64.min = 0 := by decide
  have h13 : IntKind.u64.max = 18446744073709551615 := by decide
  obtain ⟨ua, uc, rfl⟩ := hr.shape
  obtain ⟨vn, rfl⟩ : ∃ vn : Nat, v = vn := ⟨v.toNat, by omega⟩
  exact ⟨⟨k, r, nn, b, vn, l, ek, ec⟩, ua, uc, rfl, by simpa [ints] using hr, ⟨by dsimp only; omega, by dsimp only; omega, by dsimp only; omega, hm⟩⟩

/-- a row of calls: where each lies -/
def ActsIn (w : World) (sa : Option Addr) (l : List Ax) : Prop := ∀ k (h : k < l.length), ∃ b o ua uc, sa = some ⟨b, o, none⟩ ∧ At w b (o + k * 8) (l[k].cells (.slice ua l[k].l.length uc)) ∧ Reads w (.slice ua l[k].l.length uc) 1 l[k].l.length (ints l[k].l) ∧ l[k].Fine
theorem ActsIn.fr {sa : Option Addr} {l : List Ax} (h : ActsIn w sa l) (r : Fr no w w') : ActsIn w' sa l := fun k hk => by
  obtain ⟨b, o, ua, uc, e, h1, h2, h3⟩ := h k hk
  exact ⟨b, o, ua, uc, e, h1.fr r, h2.fr r (by simp), h3⟩
theorem acts_of {n : Nat} {v : Value} {d : Dt} (h : Rd Tryz.prog w n 55 [v] d) : ∃ (sa : Option Addr) (c : Nat) (l : List Ax), v = .slice sa l.length c ∧ ActsIn w sa l ∧ l.length ≤ maxLen := by
  obtain ⟨l, sa, cap, -, hcs, h1, h2, h3, h4⟩ := h.rows (z := 8) Tryz.underlying55 (by kernel_rfl) (by decide)
  obtain rfl : v = .slice sa l.length cap := by simpa using hcs
  have hd : ∀ i, i < l.length → ∃ x : Ax, ∃ b o ua uc, sa = some ⟨b, o, none⟩ ∧ At w b (o + i * 8) (x.cells (.slice ua x.l.length uc)) ∧ Reads w (.slice ua x.l.length uc) 1 x.l.length (ints x.l) ∧ x.Fine := by
    intro i hi
    obtain ⟨b, o, es, rfl, h5, h6, h7⟩ := h4 i hi
    obtain ⟨x, ua, uc, rfl, q1, q2⟩ := act_of h7
    exact ⟨x, b, o, ua, uc, rfl, fun j v hj => h6 j v hj, q1, q2⟩
  obtain ⟨xs, hl, hp⟩ := list_of_each hd
  exact ⟨sa, cap, xs, by rw [hl], fun k hk => hp k hk, by omega⟩

/-- are calls more than are gone through? -/
def longA (l : List Ax) : Bool := l.any (fun x => decide (20 < x.l.length)) || decide (50 < l.length)
theorem longA_false {l : List Ax} (h : longA l = false) : l.length ≤ 50 ∧ ∀ x ∈ l, x.l.length ≤ 20 := by
  simp only [longA, Bool.or_eq_false_iff, decide_eq_false_iff_not] at h
  refine ⟨by omega, fun x hx => ?_⟩
  have := List.any_eq_false.1 h.1 x hx
  simp at this
  exact this
theorem long15_ok (w : World) (sa : Option Addr) (c : Nat) (l : List Ax) (h : ActsIn w sa l) (hl : l.length ≤ maxLen) : Calls Tryz.prog 26 #[.slice sa l.length c] w fun e w' => e = .returned (.bool (longA l)) ∧ Fr no w w' := by
  have HA := Lib.hid h
  unfold maxLen at hl
  clear h
  go_enter Tryz.func26, Tryz.ntmps26
  go_wp2_with fail
  go_loopw [3] (fun y wr => ∃ j : Nat, j ≤ l.length ∧ y = .int .i64 j ∧ Hid ((l.take j).any (fun x => decide (20 < x.l.length)) = false) ∧ Hid (Fr no w wr)) (fun y _ => (l.length - intOf y).toNat)
  case atStart => exact ⟨0, by omega, by simp, Lib.hid (by simp), Lib.hid (Fr.refl _ _)⟩
  case round =>
    obtain ⟨j, hj, rfl, hn, hfr⟩ := hrel
    by_cases hjl : j < l.length
    · have hlt : (j : Int) < l.length := by omega
      obtain ⟨b, o, ua, uc, rfl, hat, -, -⟩ := (HA.out.fr hfr.out) j hjl
      have c5 : wr.cell? ⟨b, o + j * 8 + 5, none⟩ = some (.slice ua l[j].l.length uc) := hat 5 _ rfl
      have HN : Hid (l[j].l.length ≤ 20 → (l.take (j + 1)).any (fun x => decide (20 < x.l.length)) = false) := Lib.hid (fun h => by rw [List.take_succ_eq_append_getElem hjl, List.any_append, hn.out]; simp; omega)
      have HY : Hid (20 < l[j].l.length → longA l = true) := Lib.hid (fun h => by
        unfold longA
        rw [Bool.or_eq_true]
        left
        rw [List.any_eq_true]
        exact ⟨l[j], List.getElem_mem hjl, decide_eq_true h⟩)
      clear hat
      generalize l[j].l.length = q at *
      by_cases hq : 20 < q
      · have hq' : (q : Int) > 20 := by omega
        go_wp2_with fail
        go_ret
        exact ⟨by rw [HY.out hq]; rfl, hfr.out⟩
      · have hq' : ¬ (q : Int) > 20 := by omega
        have HN2 := Lib.hid (HN.out (by omega))
        go_wp2_with fail
        go_roundw
        case rel => exact ⟨j + 1, by omega, by go_num, HN2, hfr⟩
        case measure => first | (simp [intOf]; done) | (simp [intOf]; omega)
    · obtain rfl : j = l.length := by omega
      have HL : Hid (longA l = decide ((l.length : Int) > 50)) := Lib.hid (by
        have := hn.out
        rw [List.take_length] at this
        unfold longA
        rw [this, Bool.false_or, decide_eq_decide]
        omega)
      clear hn
      go_wp2_with fail
      go_ret
      exact ⟨by rw [HL.out]; rfl, hfr.out⟩

end Go.Proofs.YtihnkijeefkefaaGreat

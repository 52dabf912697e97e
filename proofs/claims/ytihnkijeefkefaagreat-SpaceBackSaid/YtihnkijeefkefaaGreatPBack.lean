/- SpaceBack: whatever the input, the law's function returns true and leaves what it was handed as it was. No condition of our own. -/
import Derived.Test.YtihnkijeefkefaaGreatLA
import Derived.Test.YtihnkijeefkefaaGreatQ26
import Derived.ProofKit
import Derived.SizedLaws
import Derived.OpenShut
set_option linter.unusedSimpArgs false
set_option linter.unusedVariables false
set_option linter.unusedSectionVars false
set_option linter.unnecessarySimpa false
set_option maxRecDepth 100000
/- Rows of numbers as they are handed in. -/
namespace Go.RowKit
open Go.ChangeShapes Go.WideShapes Go.ChangeAt Go.Deep
section
variable {H : Type} {enc : TypeId × Value → H} {P : Program} {W : World} {base : Nat} {t e : TypeId} {v : Value} {d : DataW H} {p : List MemPlace}

theorem arg_ints {k : IntKind} {by_ : Nat} (ht : P.underlying t = some (.slice e)) (he : P.underlying e = some (.int k)) (hc : P.cellsOf e = 1)
    (hk : Value.okWide P W .any base t v) (h : DataW.Trod enc P W 0 (fun _ => true) true t v d p)
    (hs : ∀ x y, d = .slice x y → (x.length + y.length) * by_ ≤ reachBytes) :
    ∃ zs : List Int, Reads W v 1 zs.length (zs.map (.int k)) ∧ (∀ z ∈ zs, (Lit.int k z).wf = true) ∧ zs.length * by_ ≤ reachBytes := by
  obtain ⟨a, len, cap, rfl⟩ := okWide_slice ht hk
  obtain ⟨fuel, hf⟩ := h
  rcases open_ints ht he hc hf with ⟨hcs, _⟩ | ⟨x, l, c, zs, hcs, _, hl, hm, hz, hx, hcell, hwz⟩
  · simp [Value.cells] at hcs
    obtain ⟨rfl, rfl, rfl⟩ := hcs
    exact ⟨[], .inl ⟨rfl, rfl, rfl⟩, by simp, by simp⟩
  · simp [Value.cells] at hcs
    obtain ⟨rfl, rfl, rfl⟩ := hcs
    simp only [if_true] at hz
    have e1 : (zs.take len).length = len := by rw [List.length_take]; omega
    refine ⟨zs.take len, ?_, fun z hz' => hwz z (List.mem_of_mem_take hz'), ?_⟩
    · rw [e1]
      refine .inr ⟨x, cap, rfl, hl, hm, by simp; omega, fun j u hu => ?_⟩
      have hj : j < len := by
        rcases Nat.lt_or_ge j len with h | h
        · exact h
        · rw [List.getElem?_eq_none (by simp; omega)] at hu; cases hu
      rw [hcell j (by omega)]
      rw [List.getElem?_map, List.getElem?_take, if_pos hj, List.getElem?_eq_getElem (by omega)] at hu
      simp only [Option.map_some, Option.some.injEq] at hu
      rw [← hu, List.getD_eq_getElem?_getD, List.getElem?_eq_getElem (by omega)]; rfl
    · have hd := congrArg Prod.fst hx
      have := hs _ _ hd
      refine Nat.le_trans (Nat.mul_le_mul_right _ ?_) this
      simp [lits]
end

end Go.RowKit

set_option linter.unusedSimpArgs false
set_option linter.unusedVariables false
set_option linter.unusedSectionVars false
set_option linter.unnecessarySimpa false
set_option maxRecDepth 100000
/- SpaceKnown. -/
namespace Go.Proofs.YtihnkijeefkefaaGreat
open Go.RowKit

attribute [local go_sem] Program.isFuncB Program.isSliceB

variable {w w' w'' w0 : World} {p : Nat} {s s' : Zp}

def tS4 : Zp := (tS3.retS 258).1
def tY : Zp := newS twoM 32 [] 0
theorem tS3_get2 : tS3.getS 2 = (0, 5) := by kernel_rfl
theorem tS3_burn : tS3.burnS 11 = (tS3, 2) := by unfold Zp.burnS; rw [if_neg (by decide), if_pos (by right; decide)]
theorem tS3_call : tS3.callS 1 [] 0 0 = (tS3, 2) := callS_2 (by kernel_rfl) (by kernel_rfl) 0 0
theorem tS3_ret : (tS3.retS 258).2 = 0 := by kernel_rfl
theorem tS4_e : tS4.e = (1, 2) := by kernel_rfl
theorem tS4_set : tS4.setS 0 1 = (tS4, 9) := setS_9 (by rw [tS4_e]; decide) 0 1
theorem tY_e : tY.e = (3, 0) := by kernel_rfl
set_option maxHeartbeats 4000000 in
theorem known15_ok (w : World) : Calls Tryz.prog 4 #[] w fun e w' => e = .returned (.bool true) ∧ Fr no w w' := by
  have HB1 : Hid (newBad twoM 100 0) := Lib.hid (by unfold newBad; rw [two_ck]; omega)
  have HB2 : Hid (¬ newBad twoM 16 0) := Lib.hid (by unfold newBad; rw [two_ck]; omega)
  have HB3 : Hid (¬ newBad twoM (32 : Nat) 0) := Lib.hid (by unfold newBad; rw [two_ck]; omega)
  go_enter Tryz.func4, Tryz.ntmps4
  go_wp2_with fail
  refine (called_ok w).mono ?_
  rintro e w1 ⟨p, rfl, h1⟩
  have H1 := Lib.hid h1
  clear h1
  go_wp2_with fail
  refine (o_ret w1 5 (by decide) H1.out).mono ?_
  rintro e w2 ⟨rfl, h2⟩
  rw [tS2_ret]
  have H2 : Hid (Own15 w w2 p tS3) := Lib.hid h2
  clear h2
  go_wp2_with fail
  refine (o_get w2 2 H2.out).mono ?_
  rintro e w3 ⟨rfl, h3⟩
  rw [tS3_get2]
  have H3 := Lib.hid h3
  clear h3
  go_wp2_with fail
  refine (o_burn w3 11 (by decide) H3.out).mono ?_
  rw [tS3_burn]
  rintro e w4 ⟨rfl, h4⟩
  have H4 := Lib.hid h4
  clear h4
  go_wp2_with fail
  refine (o_call w4 (ar := []) (f := 1) (res := 0) (back := 0) (by decide) (.inl ⟨rfl, rfl, rfl⟩) H4.out).mono ?_
  rw [tS3_call]
  rintro e w5 ⟨rfl, h5⟩
  have H5 := Lib.hid h5
  clear h5
  go_wp2_with fail
  refine (o_ret w5 258 (by decide) H5.out).mono ?_
  rintro e w6 ⟨rfl, h6⟩
  rw [tS3_ret]
  have H6 : Hid (Own15 w w6 p tS4) := Lib.hid h6
  clear h6
  go_wp2_with fail
  refine (o_end w6 H6.out).mono ?_
  rw [tS4_e]
  rintro e w7 ⟨rfl, h7⟩
  obtain ⟨O, R, zz, hs7, hO7, hr7⟩ := h7
  have H7 := Lib.hid hs7
  have HLT : Hid (∀ k, O k → k < w7.heap.size) := Lib.hid (fun k hk => hs7.lt k (.inl hk))
  have HO7 : Hid (∀ k, O k → w.heap.size ≤ k) := Lib.hid hO7
  have R7 := Lib.hid hr7
  clear hs7 hO7 hr7
  go_wp2_with fail
  have r8 := (Fr.refl no w7).alloc (.cells #[.int .i64 1, .int .i64 2] 43)
  have X8 := Lib.hid (heap_new w7 (.cells #[.int .i64 1, .int .i64 2] 43))
  have H8 := Lib.hid (H7.out.fr r8)
  have R8 := Lib.hid (R7.out.trans r8)
  have S8 : Hid (w7.heap.size ≤ (w7.alloc (.cells #[.int .i64 1, .int .i64 2] 43)).heap.size) := Lib.hid r8.size
  clear r8
  generalize w7.alloc (.cells #[.int .i64 1, .int .i64 2] 43) = w8 at *
  refine (smade_law w8 32 0 HB3.out (by decide)).mono ?_
  rintro e w9 ⟨y, rfl, hy⟩
  have HY : Hid (Own15 w8 w9 y tY) := Lib.hid hy
  have X9 := Lib.hid (hy.frame.heap X8.out (by simp))
  have H9 := Lib.hid (H8.out.fr hy.frame)
  clear hy
  go_wp2_with fail
  refine (o_end w9 HY.out).mono ?_
  rw [tY_e]
  rintro e w10 ⟨rfl, h10⟩
  have X10 := Lib.hid (h10.frame.heap X8.out (by simp))
  have H10 := Lib.hid (H8.out.fr h10.frame)
  have R10 := Lib.hid (R8.out.trans h10.frame)
  have S10 : Hid (w7.heap.size ≤ w10.heap.size) := Lib.hid (Nat.le_trans S8.out h10.frame.size)
  clear h10
  go_wp2_with fail
  have r11 := (Fr.refl no w10).alloc (.cells #[.int .i64 3, .int .i64 0] 43)
  have Z11 := Lib.hid (heap_new w10 (.cells #[.int .i64 3, .int .i64 0] 43))
  have X11 := Lib.hid (r11.heap X10.out (by simp))
  have H11 := Lib.hid (H10.out.fr r11)
  have R11 := Lib.hid (R10.out.trans r11)
  clear r11
  generalize w10.alloc (.cells #[.int .i64 3, .int .i64 0] 43) = w11 at *
  refine (two15_ok w11).mono ?_
  rintro e w12 ⟨da, fa, rfl, hm, r12⟩
  have HM := Lib.hid hm
  have X12 := Lib.hid (r12.heap X11.out (by simp))
  have Z12 := Lib.hid (r12.heap Z11.out (by simp))
  have H12 := Lib.hid (H11.out.fr r12)
  have R12 := Lib.hid (R11.out.trans r12)
  clear hm r12
  go_wp2_with fail
  refine (snew_bad (m := twoM) (inp := []) (n := 100) (fuel := 0) w12 HM.out two_small HB1.out).mono ?_
  rintro e w13 ⟨rfl, r13⟩
  have X13 := Lib.hid (r13.heap X12.out (by simp))
  have Z13 := Lib.hid (r13.heap Z12.out (by simp))
  have H13 := Lib.hid (H12.out.fr r13)
  have R13 := Lib.hid (R12.out.trans r13)
  clear r13 HM
  go_wp2_with fail
  refine (two15_ok w13).mono ?_
  rintro e w14 ⟨da2, fa2, rfl, hm, r14⟩
  have HM := Lib.hid hm
  have X14 := Lib.hid (r14.heap X13.out (by simp))
  have Z14 := Lib.hid (r14.heap Z13.out (by simp))
  have H14 := Lib.hid (H13.out.fr r14)
  have R14 := Lib.hid (R13.out.trans r14)
  clear hm r14
  go_wp2_with fail
  refine (snew_full (m := twoM) (inp := []) (n := 16) (fuel := 0) w14 HM.out two_small (.inl ⟨rfl, rfl, rfl⟩) (by decide) HB2.out (by decide)).mono ?_
  rintro e w15 ⟨rfl, r15⟩
  have X15 := Lib.hid (r15.heap X14.out (by simp))
  have Z15 := Lib.hid (r15.heap Z14.out (by simp))
  have H15 := Lib.hid (H14.out.fr r15)
  have R15 := Lib.hid (R14.out.trans r15)
  clear r15 HM
  go_wp2_with fail
  refine (awake15_ok w15).mono ?_
  rintro e w16 ⟨rfl, r16⟩
  have hx := r16.heap X15.out (by simp)
  have hz := r16.heap Z15.out (by simp)
  have x0 := cell_of_heap (o := 0) hx rfl
  have x1 := cell_of_heap (o := 1) hx rfl
  have z0 := cell_of_heap (o := 0) hz rfl
  have Z16 := Lib.hid hz
  have H16 := Lib.hid (H15.out.fr r16)
  have R16 := Lib.hid (R15.out.trans r16)
  clear r16 hx hz
  go_wp2_with fail
  refine (sset_ok w16 0 1 (by decide) H16.out).mono ?_
  rw [tS4_set]
  rintro e w17 ⟨rfl, -, r17⟩
  have hz17 := r17.heap Z16.out (fun ho => by have := HLT.out _ ho; have := S10.out; omega)
  have z0' := cell_of_heap (o := 0) hz17 rfl
  have R17 := Lib.hid (R16.out.trans' r17 (fun k hk _ => HO7.out k hk))
  clear r17 hz17 x0 x1 z0
  go_wp2_with fail
  go_ret
  exact ⟨rfl, R17.out⟩

end Go.Proofs.YtihnkijeefkefaaGreat

set_option linter.unusedSimpArgs false
set_option linter.unusedVariables false
set_option linter.unusedSectionVars false
set_option linter.unnecessarySimpa false
set_option maxRecDepth 100000
/- A space that nobody made answers ErrNil. -/
namespace Go.Proofs.YtihnkijeefkefaaGreat
open Go.RowKit

attribute [local go_sem] Program.isFuncB Program.isSliceB

variable {w w' w'' w0 : World} {v : Value}

def zeroSp : Array Value := #[.int .u32 0, .int .i32 0, .int .u32 0, .int .i64 0, .slice none 0 0, .slice none 0 0, .slice none 0 0, .int .i64 0, .pointer none, .pointer none, .int .i64 0, .int .u64 0, .int .u64 0, .int .i64 0, .int .i64 0, .slice none 0 0, .int .i64 0, .int .i64 0]
def NoSp (w : World) (v : Value) : Prop := v = .pointer none ∨ ∃ b, v = .pointer (some ⟨b, 0, none⟩) ∧ w.heap[b]? = some (.cells zeroSp 94 (0, 0))
theorem NoSp.fr (h : NoSp w v) (r : Fr no w w') : NoSp w' v := by
  rcases h with rfl | ⟨b, rfl, h⟩
  · exact .inl rfl
  · exact .inr ⟨b, rfl, r.heap h (by simp)⟩
end Go.Proofs.YtihnkijeefkefaaGreat

set_option linter.unusedSimpArgs false
set_option linter.unusedVariables false
set_option linter.unusedSectionVars false
set_option linter.unnecessarySimpa false
set_option maxRecDepth 100000
/- Calls as they are handed in. -/
namespace Go.Proofs.YtihnkijeefkefaaGreat
open Go.RowKit

attribute [local go_sem] Program.isFuncB Program.isSliceB

variable {w w' w'' w0 : World}

structure Ax where
  k : Int
  r : Int
  n : Int
  b : Int
  v : Nat
  l : List Int
  ek : Int
  ec : Int
def Ax.cells (x : Ax) (u : Value) : List Value := [.int .i64 x.k, .int .i64 x.r, .int .i64 x.n, .int .i64 x.b, .int .u64 x.v, u, .int .i64 x.ek, .int .i64 x.ec]
/-- a call's numbers, as they may be -/
structure Ax.Fine (x : Ax) : Prop where
  n0 : -9223372036854775808 ≤ x.n
  n1 : x.n < 9223372036854775808
  v1 : x.v < 18446744073709551616
  l1 : x.l.length ≤ maxLen
theorem len_eight : ∀ (es : List Value), es.length = 8 → ∃ a b c d e f g h, es = [a, b, c, d, e, f, g, h]
  | [a, b, c, d, e, f, g, h], _ => ⟨a, b, c, d, e, f, g, h, rfl⟩
theorem act_of {n : Nat} {cs : List Value} {d : Dt} (h : Rd Tryz.prog w n 57 cs d) : ∃ (x : Ax) (ua : Option Addr) (uc : Nat), cs = x.cells (.slice ua x.l.length uc) ∧ Reads w (.slice ua x.l.length uc) 1 x.l.length (ints x.l) ∧ x.Fine := by
  obtain ⟨fl, -, hlen, -, hf⟩ := h.fields (z := 8) Tryz.underlying57 (by kernel_rfl)
  obtain ⟨a0, a1, a2, a3, a4, a5, a6, a7, rfl⟩ := len_eight cs hlen
  obtain ⟨_, -, r0⟩ := hf 0 3 0 1 rfl (by kernel_rfl)
  obtain ⟨_, -, r1⟩ := hf 1 3 1 1 rfl (by kernel_rfl)
  obtain ⟨_, -, r2⟩ := hf 2 3 2 1 rfl (by kernel_rfl)
  obtain ⟨_, -, r3⟩ := hf 3 3 3 1 rfl (by kernel_rfl)
  obtain ⟨_, -, r4⟩ := hf 4 34 4 1 rfl (by kernel_rfl)
  obtain ⟨_, -, r5⟩ := hf 5 26 5 1 rfl (by kernel_rfl)
  obtain ⟨_, -, r6⟩ := hf 6 43 6 2 rfl (by kernel_rfl)
  obtain ⟨k, e0, -, -⟩ := r0.int Tryz.underlying3
  obtain ⟨r, e1, -, -⟩ := r1.int Tryz.underlying3
  obtain ⟨nn, e2, -, w2⟩ := r2.int Tryz.underlying3
  obtain ⟨b, e3, -, -⟩ := r3.int Tryz.underlying3
  obtain ⟨v, e4, -, w4⟩ := r4.int Tryz.underlying34
  obtain ⟨l, -, hr, hz, hm⟩ := Rd.reads (v := a5) Tryz.underlying26 Tryz.underlying3 (by kernel_rfl) r5
  obtain ⟨fl2, -, hlen2, -, hf2⟩ := r6.fields (z := 2) Tryz.underlying43 (by kernel_rfl)
  obtain ⟨_, -, q0⟩ := hf2 0 3 0 1 rfl (by kernel_rfl)
  obtain ⟨_, -, q1⟩ := hf2 1 3 1 1 rfl (by kernel_rfl)
  obtain ⟨ek, e6, -, -⟩ := q0.int Tryz.underlying3
  obtain ⟨ec, e7, -, -⟩ := q1.int Tryz.underlying3
  simp at e0 e1 e2 e3 e4 e6 e7
  subst e0 e1 e2 e3 e4 e6 e7
  have h8 : IntKind.i64.min ≤ nn ∧ nn ≤ IntKind.i64.max := by simpa [Lit.wf] using w2
  have h9 : IntKind.i64.min = -9223372036854775808 := by decide
  have h10 : IntKind.i64.max = 9223372036854775807 := by decide
  have h11 : IntKind.u64.min ≤ v ∧ v ≤ IntKind.u64.max := by simpa [Lit.wf] using w4
  have h12 : IntKind.u64.min = 0 := by decide
  have h13 : IntKind.u64.max = 18446744073709551615 := by decide
  obtain ⟨ua, uc, rfl⟩ := hr.shape
  obtain ⟨vn, rfl⟩ : ∃ vn : Nat, v = vn := ⟨v.toNat, by omega⟩
  exact ⟨⟨k, r, nn, b, vn, l, ek, ec⟩, ua, uc, rfl, by simpa [ints] using hr, ⟨by dsimp only; omega, by dsimp only; omega, by dsimp only; omega, hm⟩⟩

/-- a row of calls: where each lies -/
def ActsIn (w : World) (sa : Option Addr) (l : List Ax) : Prop := ∀ k (h : k < l.length), ∃ b o ua uc, sa = some ⟨b, o, none⟩ ∧ At w b (o + k * 8) (l[k].cells (.slice ua l[k].l.length uc)) ∧ Reads w (.slice ua l[k].l.length uc) 1 l[k].l.length (ints l[k].l) ∧ l[k].Fine
theorem ActsIn.fr {sa : Option Addr} {l : List Ax} (h : ActsIn w sa l) (r : Fr no w w') : ActsIn w' sa l := fun k hk => by
  obtain ⟨b, o, ua, uc, e, h1, h2, h3⟩ := h k hk
  exact ⟨b, o, ua, uc, e, h1.fr r, h2.fr r (by simp), h3⟩
theorem acts_of {n : Nat} {v : Value} {d : Dt} (h : Rd Tryz.prog w n 55 [v] d) : ∃ (sa : Option Addr) (c : Nat) (l : List Ax), v = .slice sa l.length c ∧ ActsIn w sa l ∧ l.length ≤ maxLen := by
  obtain ⟨l, sa, cap, -, hcs, h1, h2, h3, h4⟩ := h.rows (z := 8) Tryz.underlying55 (by kernel_rfl) (by decide)
  obtain rfl : v = .slice sa l.length cap := by simpa using hcs
  have hd : ∀ i, i < l.length → ∃ x : Ax, ∃ b o ua uc, sa = some ⟨b, o, none⟩ ∧ At w b (o + i * 8) (x.cells (.slice ua x.l.length uc)) ∧ Reads w (.slice ua x.l.length uc) 1 x.l.length (ints x.l) ∧ x.Fine := by
    intro i hi
    obtain ⟨b, o, es, rfl, h5, h6, h7⟩ := h4 i hi
    obtain ⟨x, ua, uc, rfl, q1, q2⟩ := act_of h7
    exact ⟨x, b, o, ua, uc, rfl, fun j v hj => h6 j v hj, q1, q2⟩
  obtain ⟨xs, hl, hp⟩ := list_of_each hd
  exact ⟨sa, cap, xs, by rw [hl], fun k hk => hp k hk, by omega⟩

/-- are calls more than are gone through? -/
def longA (l : List Ax) : Bool := l.any (fun x => decide (20 < x.l.length)) || decide (50 < l.length)
theorem longA_false {l : List Ax} (h : longA l = false) : l.length ≤ 50 ∧ ∀ x ∈ l, x.l.length ≤ 20 := by
  simp only [longA, Bool.or_eq_false_iff, decide_eq_false_iff_not] at h
  refine ⟨by omega, fun x hx => ?_⟩
  have := List.any_eq_false.1 h.1 x hx
  simp at this
  exact this
theorem long15_ok (w : World) (sa : Option Addr) (c : Nat) (l : List Ax) (h : ActsIn w sa l) (hl : l.length ≤ maxLen) : Calls Tryz.prog 26 #[.slice sa l.length c] w fun e w' => e = .returned (.bool (longA l)) ∧ Fr no w w' := by
  have HA := Lib.hid h
  unfold maxLen at hl
  clear h
  go_enter Tryz.func26, Tryz.ntmps26
  go_wp2_with fail
  go_loopw [3] (fun y wr => ∃ j : Nat, j ≤ l.length ∧ y = .int .i64 j ∧ Hid ((l.take j).any (fun x => decide (20 < x.l.length)) = false) ∧ Hid (Fr no w wr)) (fun y _ => (l.length - intOf y).toNat)
  case atStart => exact ⟨0, by omega, by simp, Lib.hid (by simp), Lib.hid (Fr.refl _ _)⟩
  case round =>
    obtain ⟨j, hj, rfl, hn, hfr⟩ := hrel
    by_cases hjl : j < l.length
    · have hlt : (j : Int) < l.length := by omega
      obtain ⟨b, o, ua, uc, rfl, hat, -, -⟩ := (HA.out.fr hfr.out) j hjl
      have c5 : wr.cell? ⟨b, o + j * 8 + 5, none⟩ = some (.slice ua l[j].l.length uc) := hat 5 _ rfl
      have HN : Hid (l[j].l.length ≤ 20 → (l.take (j + 1)).any (fun x => decide (20 < x.l.length)) = false) := Lib.hid (fun h => by rw [List.take_succ_eq_append_getElem hjl, List.any_append, hn.out]; simp; omega)
      have HY : Hid (20 < l[j].l.length → longA l = true) := Lib.hid (fun h => by
        unfold longA
        rw [Bool.or_eq_true]
        left
        rw [List.any_eq_true]
        exact ⟨l[j], List.getElem_mem hjl, decide_eq_true h⟩)
      clear hat
      generalize l[j].l.length = q at *
      by_cases hq : 20 < q
      · have hq' : (q : Int) > 20 := by omega
        go_wp2_with fail
        go_ret
        exact ⟨by rw [HY.out hq]; rfl, hfr.out⟩
      · have hq' : ¬ (q : Int) > 20 := by omega
        have HN2 := Lib.hid (HN.out (by omega))
        go_wp2_with fail
        go_roundw
        case rel => exact ⟨j + 1, by omega, by go_num, HN2, hfr⟩
        case measure => first | (simp [intOf]; done) | (simp [intOf]; omega)
    · obtain rfl : j = l.length := by omega
      have HL : Hid (longA l = decide ((l.length : Int) > 50)) := Lib.hid (by
        have := hn.out
        rw [List.take_length] at this
        unfold longA
        rw [this, Bool.false_or, decide_eq_decide]
        omega)
      clear hn
      go_wp2_with fail
      go_ret
      exact ⟨by rw [HL.out]; rfl, hfr.out⟩

end Go.Proofs.YtihnkijeefkefaaGreat

set_option linter.unusedSimpArgs false
set_option linter.unusedVariables false
set_option linter.unusedSectionVars false
set_option linter.unnecessarySimpa false
set_option maxRecDepth 100000
/- SpaceNone. -/
namespace Go.Proofs.YtihnkijeefkefaaGreat
open Go.RowKit

attribute [local go_sem] Program.isFuncB Program.isSliceB

variable {w w' w'' w0 : World}

theorem cells8n {b : Nat} {a0 a1 a2 a3 a4 a5 a6 a7 : Value} {t : TypeId} (h : w.heap[b]? = some (.cells #[a0, a1, a2, a3, a4, a5, a6, a7] t (0, 0))) :
    w.cell? ⟨b, 0, none⟩ = some a0 ∧ w.cell? ⟨b, 1, none⟩ = some a1 ∧ w.cell? ⟨b, 2, none⟩ = some a2 ∧ w.cell? ⟨b, 3, none⟩ = some a3 ∧ w.cell? ⟨b, 4, none⟩ = some a4 ∧ w.cell? ⟨b, 5, none⟩ = some a5 ∧ w.cell? ⟨b, 6, none⟩ = some a6 ∧ w.cell? ⟨b, 7, none⟩ = some a7 :=
  ⟨cell_of_heap h rfl, cell_of_heap h rfl, cell_of_heap h rfl, cell_of_heap h rfl, cell_of_heap h rfl, cell_of_heap h rfl, cell_of_heap h rfl, cell_of_heap h rfl⟩
theorem acts_one {b : Nat} {x : Ax} {ua : Option Addr} {uc : Nat} {t : TypeId} (h : w.heap[b]? = some (.cells (x.cells (.slice ua x.l.length uc)).toArray t (0, 0))) (hr : Reads w (.slice ua x.l.length uc) 1 x.l.length (ints x.l)) (hf : x.Fine) : ActsIn w (some ⟨b, 0, none⟩) [x] := fun k hk => by
  obtain rfl : k = 0 := by simp at hk; exact hk
  refine ⟨b, 0, ua, uc, rfl, ?_, hr, hf⟩
  intro j v hj
  rw [Nat.zero_mul, Nat.add_zero, Nat.zero_add]
  exact cell_of_heap h (by simpa using hj)
theorem Tryz.infoAct : (Tryz.prog.info? 57).map (·.size) = some 8 := by kernel_rfl
end Go.Proofs.YtihnkijeefkefaaGreat

set_option linter.unusedSimpArgs false
set_option linter.unusedVariables false
set_option linter.unusedSectionVars false
set_option linter.unnecessarySimpa false
set_option maxRecDepth 100000
/- A call of a space, as the law makes it. -/
namespace Go.Proofs.YtihnkijeefkefaaGreat
open Go.RowKit

attribute [local go_sem] Program.isFuncB Program.isSliceB

variable {w w' w'' w0 : World} {O R : Nat → Prop} {p : Nat} {s s' : Zp} {z : Pz}

def u64of (n : Int) : Nat := (n % 18446744073709551616).toNat
def Zp.actS (s : Zp) (x : Ax) : Zp :=
  if x.k = 0 then s else if x.k = 1 then (s.setS x.r x.v).1 else if x.k = 2 then (s.goS x.n).1 else if x.k = 3 then (s.burnS x.n).1
  else if x.k = 4 ∨ x.k = 5 then (s.callS x.n x.l x.r x.b).1 else if x.k = 6 then (s.retS x.v).1 else if x.k = 7 then (s.stopS (x.ek, x.ec)).1
  else if x.k = 8 then (s.getbS).1 else if x.k = 9 then (s.putbS x.n).1 else if x.k = 10 then (s.stoS x.v (u64of x.n)).1 else s
theorem Zp.Ok.actS (h : s.Ok) (x : Ax) : (s.actS x).Ok := by
  unfold Zp.actS
  split
  · exact h
  split
  · exact h.setS _ _
  split
  · exact h.goS _
  split
  · exact h.burnS _
  split
  · exact h.callS _ _ _ _
  split
  · exact h.retS _
  split
  · exact h.stopS _
  split
  · exact h.getbS
  split
  · exact h.putbS _
  split
  · exact h.stoS _ _
  · exact h
theorem u64of_lt (n : Int) : u64of n < 18446744073709551616 := by unfold u64of; omega
theorem u64of_wrap (n : Int) : IntKind.u64.wrap n = (u64of n : Nat) := by rw [IntKind.wrap_u64]; unfold u64of; omega
/-- a number is stored in the space's memory -/
theorem sto_ok (w : World) (a v : Nat) (ha : a < 18446744073709551616) (hv : v < 18446744073709551616) (h : SpAt w O R p s z) :
    Calls Tryz.prog 33 #[.pointer (some ⟨z.q, 0, none⟩), .int .u64 a, .int .i64 8, .int .u64 v] w fun e w' => e = .returned (.int .i64 (s.stoS a v).2) ∧ SpAt w' O R p (s.stoS a v).1 z ∧ Fr O w w' := by
  have hok := h.ok.stoS a v
  unfold Zp.stoS at hok ⊢
  cases hi : inB s.b.length a 8
  · simp only [Bool.false_eq_true, if_false]
    refine (store_out w a v 8 rfl h.mem ha h.ok.bl hi).mono ?_
    rintro e w' ⟨rfl, r⟩
    refine ⟨rfl, ?_⟩
    exact ⟨h.fr r, r.to⟩
  · rw [hi, if_pos rfl] at hok
    simp only [if_true]
    refine (store_in w a v 8 rfl h.mem ha h.ok.bl hv hi).mono ?_
    rintro e w' ⟨rfl, hm, r⟩
    exact ⟨rfl, h.turnB r hm hok, r.mono (fun k hk _ => by simp at hk; subst hk; exact h.og)⟩
theorem cells8 {b : Nat} {a0 a1 a2 a3 a4 a5 a6 a7 : Value} {t : TypeId} (h : w.heap[b]? = some (.cells #[a0, a1, a2, a3, a4, a5, a6, a7] t (0, 0))) :
    w.cell? ⟨b, 0, none⟩ = some a0 ∧ w.cell? ⟨b, 1, none⟩ = some a1 ∧ w.cell? ⟨b, 2, none⟩ = some a2 ∧ w.cell? ⟨b, 3, none⟩ = some a3 ∧ w.cell? ⟨b, 4, none⟩ = some a4 ∧ w.cell? ⟨b, 5, none⟩ = some a5 ∧ w.cell? ⟨b, 6, none⟩ = some a6 ∧ w.cell? ⟨b, 7, none⟩ = some a7 :=
  ⟨cell_of_heap h rfl, cell_of_heap h rfl, cell_of_heap h rfl, cell_of_heap h rfl, cell_of_heap h rfl, cell_of_heap h rfl, cell_of_heap h rfl, cell_of_heap h rfl⟩
set_option maxHeartbeats 2000000 in
theorem act_0 (w : World) (x : Ax) (ua : Option Addr) (uc : Nat) (hk : x.k = 0) (hr : Reads w (.slice ua x.l.length uc) 1 x.l.length (ints x.l)) (hf : x.Fine) (hd : s.ds.length < 100000) (h : SpAt w O R p s z) :
    Calls Tryz.prog 27 #[.pointer (some ⟨p, 0, none⟩), .agg #[.int .i64 x.k, .int .i64 x.r, .int .i64 x.n, .int .i64 x.b, .int .u64 x.v, .slice ua x.l.length uc, .int .i64 x.ek, .int .i64 x.ec]] w fun e w' => e = .returned (.tuple #[]) ∧ SpTo w w' O R p s := by
  have r1 := (Fr.refl no w).alloc (.cells #[.int .i64 x.k, .int .i64 x.r, .int .i64 x.n, .int .i64 x.b, .int .u64 x.v, .slice ua x.l.length uc, .int .i64 x.ek, .int .i64 x.ec] 57)
  have hb1 := heap_new w (.cells #[.int .i64 x.k, .int .i64 x.r, .int .i64 x.n, .int .i64 x.b, .int .u64 x.v, .slice ua x.l.length uc, .int .i64 x.ek, .int .i64 x.ec] 57)
  have HB := Lib.hid hb1
  have R1 := Lib.hid r1
  have H := Lib.hid (h.fr r1)
  have HL := Lib.hid (hr.fr r1 (by simp))
  have HW : Hid (w.heap.size ≠ p ∧ ¬ O w.heap.size) := Lib.hid ⟨fun e => by have := h.lt p (.inl h.op); omega, fun e => by have := h.lt _ (.inl e); omega⟩
  obtain ⟨b0, b1, b2, b3, b4, b5, b6, b7⟩ := cells8 hb1
  have HF := Lib.hid hf
  have HD := Lib.hid hd
  obtain ⟨xk, xr, xn, xb, xv, xl, xek, xec⟩ := x
  dsimp only at *
  subst hk
  clear hb1 r1 h hr hf hd
  go_enter Tryz.func27, Tryz.ntmps27
  go_wp2_with fail
  refine (sget_ok _ xr H.out).mono ?_
  rintro e w2 ⟨rfl, r⟩
  have HT := Lib.hid ((H.out.fr r).to (R1.out.trans r).to)
  clear r

  go_wp2_with fail
  go_end0
  exact ⟨rfl, HT.out⟩
set_option maxHeartbeats 2000000 in
theorem act_1 (w : World) (x : Ax) (ua : Option Addr) (uc : Nat) (hk : x.k = 1) (hr : Reads w (.slice ua x.l.length uc) 1 x.l.length (ints x.l)) (hf : x.Fine) (hd : s.ds.length < 100000) (h : SpAt w O R p s z) :
    Calls Tryz.prog 27 #[.pointer (some ⟨p, 0, none⟩), .agg #[.int .i64 x.k, .int .i64 x.r, .int .i64 x.n, .int .i64 x.b, .int .u64 x.v, .slice ua x.l.length uc, .int .i64 x.ek, .int .i64 x.ec]] w fun e w' => e = .returned (.tuple #[]) ∧ SpTo w w' O R p (s.setS x.r x.v).1 := by
  have r1 := (Fr.refl no w).alloc (.cells #[.int .i64 x.k, .int .i64 x.r, .int .i64 x.n, .int .i64 x.b, .int .u64 x.v, .slice ua x.l.length uc, .int .i64 x.ek, .int .i64 x.ec] 57)
  have hb1 := heap_new w (.cells #[.int .i64 x.k, .int .i64 x.r, .int .i64 x.n, .int .i64 x.b, .int .u64 x.v, .slice ua x.l.length uc, .int .i64 x.ek, .int .i64 x.ec] 57)
  have HB := Lib.hid hb1
  have R1 := Lib.hid r1
  have H := Lib.hid (h.fr r1)
  have HL := Lib.hid (hr.fr r1 (by simp))
  have HW : Hid (w.heap.size ≠ p ∧ ¬ O w.heap.size) := Lib.hid ⟨fun e => by have := h.lt p (.inl h.op); omega, fun e => by have := h.lt _ (.inl e); omega⟩
  obtain ⟨b0, b1, b2, b3, b4, b5, b6, b7⟩ := cells8 hb1
  have HF := Lib.hid hf
  have HD := Lib.hid hd
  obtain ⟨xk, xr, xn, xb, xv, xl, xek, xec⟩ := x
  dsimp only at *
  subst hk
  clear hb1 r1 h hr hf hd
  go_enter Tryz.func27, Tryz.ntmps27
  go_wp2_with fail
  refine (sset_ok _ xr xv HF.out.v1 H.out).mono ?_
  rintro e w2 ⟨rfl, h', r⟩
  have HT := Lib.hid (h'.to (R1.out.to.trans r))
  clear h' r

  go_wp2_with fail
  go_end0
  exact ⟨rfl, HT.out⟩
set_option maxHeartbeats 2000000 in
theorem act_2 (w : World) (x : Ax) (ua : Option Addr) (uc : Nat) (hk : x.k = 2) (hr : Reads w (.slice ua x.l.length uc) 1 x.l.length (ints x.l)) (hf : x.Fine) (hd : s.ds.length < 100000) (h : SpAt w O R p s z) :
    Calls Tryz.prog 27 #[.pointer (some ⟨p, 0, none⟩), .agg #[.int .i64 x.k, .int .i64 x.r, .int .i64 x.n, .int .i64 x.b, .int .u64 x.v, .slice ua x.l.length uc, .int .i64 x.ek, .int .i64 x.ec]] w fun e w' => e = .returned (.tuple #[]) ∧ SpTo w w' O R p (s.goS x.n).1 := by
  have r1 := (Fr.refl no w).alloc (.cells #[.int .i64 x.k, .int .i64 x.r, .int .i64 x.n, .int .i64 x.b, .int .u64 x.v, .slice ua x.l.length uc, .int .i64 x.ek, .int .i64 x.ec] 57)
  have hb1 := heap_new w (.cells #[.int .i64 x.k, .int .i64 x.r, .int .i64 x.n, .int .i64 x.b, .int .u64 x.v, .slice ua x.l.length uc, .int .i64 x.ek, .int .i64 x.ec] 57)
  have HB := Lib.hid hb1
  have R1 := Lib.hid r1
  have H := Lib.hid (h.fr r1)
  have HL := Lib.hid (hr.fr r1 (by simp))
  have HW : Hid (w.heap.size ≠ p ∧ ¬ O w.heap.size) := Lib.hid ⟨fun e => by have := h.lt p (.inl h.op); omega, fun e => by have := h.lt _ (.inl e); omega⟩
  obtain ⟨b0, b1, b2, b3, b4, b5, b6, b7⟩ := cells8 hb1
  have HF := Lib.hid hf
  have HD := Lib.hid hd
  obtain ⟨xk, xr, xn, xb, xv, xl, xek, xec⟩ := x
  dsimp only at *
  subst hk
  clear hb1 r1 h hr hf hd
  go_enter Tryz.func27, Tryz.ntmps27
  go_wp2_with fail
  refine (sgo_ok _ xn H.out).mono ?_
  rintro e w2 ⟨rfl, k⟩
  have HT := Lib.hid (k.pre R1.out)
  clear k

  go_wp2_with fail
  go_end0
  exact ⟨rfl, HT.out⟩
set_option maxHeartbeats 2000000 in
theorem act_3 (w : World) (x : Ax) (ua : Option Addr) (uc : Nat) (hk : x.k = 3) (hr : Reads w (.slice ua x.l.length uc) 1 x.l.length (ints x.l)) (hf : x.Fine) (hd : s.ds.length < 100000) (h : SpAt w O R p s z) :
    Calls Tryz.prog 27 #[.pointer (some ⟨p, 0, none⟩), .agg #[.int .i64 x.k, .int .i64 x.r, .int .i64 x.n, .int .i64 x.b, .int .u64 x.v, .slice ua x.l.length uc, .int .i64 x.ek, .int .i64 x.ec]] w fun e w' => e = .returned (.tuple #[]) ∧ SpTo w w' O R p (s.burnS x.n).1 := by
  have r1 := (Fr.refl no w).alloc (.cells #[.int .i64 x.k, .int .i64 x.r, .int .i64 x.n, .int .i64 x.b, .int .u64 x.v, .slice ua x.l.length uc, .int .i64 x.ek, .int .i64 x.ec] 57)
  have hb1 := heap_new w (.cells #[.int .i64 x.k, .int .i64 x.r, .int .i64 x.n, .int .i64 x.b, .int .u64 x.v, .slice ua x.l.length uc, .int .i64 x.ek, .int .i64 x.ec] 57)
  have HB := Lib.hid hb1
  have R1 := Lib.hid r1
  have H := Lib.hid (h.fr r1)
  have HL := Lib.hid (hr.fr r1 (by simp))
  have HW : Hid (w.heap.size ≠ p ∧ ¬ O w.heap.size) := Lib.hid ⟨fun e => by have := h.lt p (.inl h.op); omega, fun e => by have := h.lt _ (.inl e); omega⟩
  obtain ⟨b0, b1, b2, b3, b4, b5, b6, b7⟩ := cells8 hb1
  have HF := Lib.hid hf
  have HD := Lib.hid hd
  obtain ⟨xk, xr, xn, xb, xv, xl, xek, xec⟩ := x
  dsimp only at *
  subst hk
  clear hb1 r1 h hr hf hd
  go_enter Tryz.func27, Tryz.ntmps27
  go_wp2_with fail
  refine (sburn_ok _ xn HF.out.n0 H.out).mono ?_
  rintro e w2 ⟨rfl, k⟩
  have HT := Lib.hid (k.pre R1.out)
  clear k

  go_wp2_with fail
  go_end0
  exact ⟨rfl, HT.out⟩
set_option maxHeartbeats 2000000 in
theorem act_4 (w : World) (x : Ax) (ua : Option Addr) (uc : Nat) (hk : x.k = 4) (hr : Reads w (.slice ua x.l.length uc) 1 x.l.length (ints x.l)) (hf : x.Fine) (hd : s.ds.length < 100000) (hll : x.l.length ≤ 1000000) (h : SpAt w O R p s z) :
    Calls Tryz.prog 27 #[.pointer (some ⟨p, 0, none⟩), .agg #[.int .i64 x.k, .int .i64 x.r, .int .i64 x.n, .int .i64 x.b, .int .u64 x.v, .slice ua x.l.length uc, .int .i64 x.ek, .int .i64 x.ec]] w fun e w' => e = .returned (.tuple #[]) ∧ SpTo w w' O R p (s.callS x.n x.l x.r x.b).1 := by
  have r1 := (Fr.refl no w).alloc (.cells #[.int .i64 x.k, .int .i64 x.r, .int .i64 x.n, .int .i64 x.b, .int .u64 x.v, .slice ua x.l.length uc, .int .i64 x.ek, .int .i64 x.ec] 57)
  have hb1 := heap_new w (.cells #[.int .i64 x.k, .int .i64 x.r, .int .i64 x.n, .int .i64 x.b, .int .u64 x.v, .slice ua x.l.length uc, .int .i64 x.ek, .int .i64 x.ec] 57)
  have HB := Lib.hid hb1
  have R1 := Lib.hid r1
  have H := Lib.hid (h.fr r1)
  have HL := Lib.hid (hr.fr r1 (by simp))
  have HW : Hid (w.heap.size ≠ p ∧ ¬ O w.heap.size) := Lib.hid ⟨fun e => by have := h.lt p (.inl h.op); omega, fun e => by have := h.lt _ (.inl e); omega⟩
  obtain ⟨b0, b1, b2, b3, b4, b5, b6, b7⟩ := cells8 hb1
  have HLL : Hid (x.l.length ≤ 1000000) := Lib.hid hll
  have HF := Lib.hid hf
  have HD := Lib.hid hd
  obtain ⟨xk, xr, xn, xb, xv, xl, xek, xec⟩ := x
  dsimp only at *
  subst hk
  clear hll hb1 r1 h hr hf hd
  go_enter Tryz.func27, Tryz.ntmps27
  go_wp2_with fail
  refine (scall_ok _ H.out HLL.out HL.out).mono ?_
  rintro e w2 ⟨rfl, k⟩
  have HT := Lib.hid (k.pre R1.out)
  clear k

  go_wp2_with fail
  go_end0
  exact ⟨rfl, HT.out⟩
set_option maxHeartbeats 2000000 in
theorem act_5 (w : World) (x : Ax) (ua : Option Addr) (uc : Nat) (hk : x.k = 5) (hr : Reads w (.slice ua x.l.length uc) 1 x.l.length (ints x.l)) (hf : x.Fine) (hd : s.ds.length < 100000) (hll : x.l.length ≤ 1000000) (h : SpAt w O R p s z) :
    Calls Tryz.prog 27 #[.pointer (some ⟨p, 0, none⟩), .agg #[.int .i64 x.k, .int .i64 x.r, .int .i64 x.n, .int .i64 x.b, .int .u64 x.v, .slice ua x.l.length uc, .int .i64 x.ek, .int .i64 x.ec]] w fun e w' => e = .returned (.tuple #[]) ∧ SpTo w w' O R p (s.callS x.n x.l x.r x.b).1 := by
  have r1 := (Fr.refl no w).alloc (.cells #[.int .i64 x.k, .int .i64 x.r, .int .i64 x.n, .int .i64 x.b, .int .u64 x.v, .slice ua x.l.length uc, .int .i64 x.ek, .int .i64 x.ec] 57)
  have hb1 := heap_new w (.cells #[.int .i64 x.k, .int .i64 x.r, .int .i64 x.n, .int .i64 x.b, .int .u64 x.v, .slice ua x.l.length uc, .int .i64 x.ek, .int .i64 x.ec] 57)
  have HB := Lib.hid hb1
  have R1 := Lib.hid r1
  have H := Lib.hid (h.fr r1)
  have HL := Lib.hid (hr.fr r1 (by simp))
  have HW : Hid (w.heap.size ≠ p ∧ ¬ O w.heap.size) := Lib.hid ⟨fun e => by have := h.lt p (.inl h.op); omega, fun e => by have := h.lt _ (.inl e); omega⟩
  obtain ⟨b0, b1, b2, b3, b4, b5, b6, b7⟩ := cells8 hb1
  have HLL : Hid (x.l.length ≤ 1000000) := Lib.hid hll
  have HF := Lib.hid hf
  have HD := Lib.hid hd
  obtain ⟨xk, xr, xn, xb, xv, xl, xek, xec⟩ := x
  dsimp only at *
  subst hk
  clear hll hb1 r1 h hr hf hd
  go_enter Tryz.func27, Tryz.ntmps27
  go_wp2_with fail
  refine (scall_ok _ H.out HLL.out HL.out).mono ?_
  rintro e w2 ⟨rfl, k⟩
  have HT := Lib.hid (k.pre R1.out)
  clear k

  go_wp2_with fail
  go_end0
  exact ⟨rfl, HT.out⟩
set_option maxHeartbeats 2000000 in
theorem act_6 (w : World) (x : Ax) (ua : Option Addr) (uc : Nat) (hk : x.k = 6) (hr : Reads w (.slice ua x.l.length uc) 1 x.l.length (ints x.l)) (hf : x.Fine) (hd : s.ds.length < 100000) (h : SpAt w O R p s z) :
    Calls Tryz.prog 27 #[.pointer (some ⟨p, 0, none⟩), .agg #[.int .i64 x.k, .int .i64 x.r, .int .i64 x.n, .int .i64 x.b, .int .u64 x.v, .slice ua x.l.length uc, .int .i64 x.ek, .int .i64 x.ec]] w fun e w' => e = .returned (.tuple #[]) ∧ SpTo w w' O R p (s.retS x.v).1 := by
  have r1 := (Fr.refl no w).alloc (.cells #[.int .i64 x.k, .int .i64 x.r, .int .i64 x.n, .int .i64 x.b, .int .u64 x.v, .slice ua x.l.length uc, .int .i64 x.ek, .int .i64 x.ec] 57)
  have hb1 := heap_new w (.cells #[.int .i64 x.k, .int .i64 x.r, .int .i64 x.n, .int .i64 x.b, .int .u64 x.v, .slice ua x.l.length uc, .int .i64 x.ek, .int .i64 x.ec] 57)
  have HB := Lib.hid hb1
  have R1 := Lib.hid r1
  have H := Lib.hid (h.fr r1)
  have HL := Lib.hid (hr.fr r1 (by simp))
  have HW : Hid (w.heap.size ≠ p ∧ ¬ O w.heap.size) := Lib.hid ⟨fun e => by have := h.lt p (.inl h.op); omega, fun e => by have := h.lt _ (.inl e); omega⟩
  obtain ⟨b0, b1, b2, b3, b4, b5, b6, b7⟩ := cells8 hb1
  have HF := Lib.hid hf
  have HD := Lib.hid hd
  obtain ⟨xk, xr, xn, xb, xv, xl, xek, xec⟩ := x
  dsimp only at *
  subst hk
  clear hb1 r1 h hr hf hd
  go_enter Tryz.func27, Tryz.ntmps27
  go_wp2_with fail
  refine (sreturn_ok _ xv HF.out.v1 H.out).mono ?_
  rintro e w2 ⟨rfl, k⟩
  have HT := Lib.hid (k.pre R1.out)
  clear k

  go_wp2_with fail
  go_end0
  exact ⟨rfl, HT.out⟩
set_option maxHeartbeats 2000000 in
theorem act_7 (w : World) (x : Ax) (ua : Option Addr) (uc : Nat) (hk : x.k = 7) (hr : Reads w (.slice ua x.l.length uc) 1 x.l.length (ints x.l)) (hf : x.Fine) (hd : s.ds.length < 100000) (h : SpAt w O R p s z) :
    Calls Tryz.prog 27 #[.pointer (some ⟨p, 0, none⟩), .agg #[.int .i64 x.k, .int .i64 x.r, .int .i64 x.n, .int .i64 x.b, .int .u64 x.v, .slice ua x.l.length uc, .int .i64 x.ek, .int .i64 x.ec]] w fun e w' => e = .returned (.tuple #[]) ∧ SpTo w w' O R p (s.stopS (x.ek, x.ec)).1 := by
  have r1 := (Fr.refl no w).alloc (.cells #[.int .i64 x.k, .int .i64 x.r, .int .i64 x.n, .int .i64 x.b, .int .u64 x.v, .slice ua x.l.length uc, .int .i64 x.ek, .int .i64 x.ec] 57)
  have hb1 := heap_new w (.cells #[.int .i64 x.k, .int .i64 x.r, .int .i64 x.n, .int .i64 x.b, .int .u64 x.v, .slice ua x.l.length uc, .int .i64 x.ek, .int .i64 x.ec] 57)
  have HB := Lib.hid hb1
  have R1 := Lib.hid r1
  have H := Lib.hid (h.fr r1)
  have HL := Lib.hid (hr.fr r1 (by simp))
  have HW : Hid (w.heap.size ≠ p ∧ ¬ O w.heap.size) := Lib.hid ⟨fun e => by have := h.lt p (.inl h.op); omega, fun e => by have := h.lt _ (.inl e); omega⟩
  obtain ⟨b0, b1, b2, b3, b4, b5, b6, b7⟩ := cells8 hb1
  have HF := Lib.hid hf
  have HD := Lib.hid hd
  obtain ⟨xk, xr, xn, xb, xv, xl, xek, xec⟩ := x
  dsimp only at *
  subst hk
  clear hb1 r1 h hr hf hd
  go_enter Tryz.func27, Tryz.ntmps27
  go_wp2_with fail
  refine (sstop_ok _ xek xec H.out).mono ?_
  rintro e w2 ⟨rfl, k⟩
  have HT := Lib.hid (k.pre R1.out)
  clear k

  go_wp2_with fail
  go_end0
  exact ⟨rfl, HT.out⟩
set_option maxHeartbeats 2000000 in
theorem act_8 (w : World) (x : Ax) (ua : Option Addr) (uc : Nat) (hk : x.k = 8) (hr : Reads w (.slice ua x.l.length uc) 1 x.l.length (ints x.l)) (hf : x.Fine) (hd : s.ds.length < 100000) (h : SpAt w O R p s z) :
    Calls Tryz.prog 27 #[.pointer (some ⟨p, 0, none⟩), .agg #[.int .i64 x.k, .int .i64 x.r, .int .i64 x.n, .int .i64 x.b, .int .u64 x.v, .slice ua x.l.length uc, .int .i64 x.ek, .int .i64 x.ec]] w fun e w' => e = .returned (.tuple #[]) ∧ SpTo w w' O R p (s.getbS).1 := by
  have r1 := (Fr.refl no w).alloc (.cells #[.int .i64 x.k, .int .i64 x.r, .int .i64 x.n, .int .i64 x.b, .int .u64 x.v, .slice ua x.l.length uc, .int .i64 x.ek, .int .i64 x.ec] 57)
  have hb1 := heap_new w (.cells #[.int .i64 x.k, .int .i64 x.r, .int .i64 x.n, .int .i64 x.b, .int .u64 x.v, .slice ua x.l.length uc, .int .i64 x.ek, .int .i64 x.ec] 57)
  have HB := Lib.hid hb1
  have R1 := Lib.hid r1
  have H := Lib.hid (h.fr r1)
  have HL := Lib.hid (hr.fr r1 (by simp))
  have HW : Hid (w.heap.size ≠ p ∧ ¬ O w.heap.size) := Lib.hid ⟨fun e => by have := h.lt p (.inl h.op); omega, fun e => by have := h.lt _ (.inl e); omega⟩
  obtain ⟨b0, b1, b2, b3, b4, b5, b6, b7⟩ := cells8 hb1
  have HF := Lib.hid hf
  have HD := Lib.hid hd
  obtain ⟨xk, xr, xn, xb, xv, xl, xek, xec⟩ := x
  dsimp only at *
  subst hk
  clear hb1 r1 h hr hf hd
  go_enter Tryz.func27, Tryz.ntmps27
  go_wp2_with fail
  refine (sgetb_ok _ HD.out H.out).mono ?_
  rintro e w2 ⟨rfl, k⟩
  have HT := Lib.hid (k.pre R1.out)
  clear k

  go_wp2_with fail
  go_end0
  exact ⟨rfl, HT.out⟩
set_option maxHeartbeats 2000000 in
theorem act_9 (w : World) (x : Ax) (ua : Option Addr) (uc : Nat) (hk : x.k = 9) (hr : Reads w (.slice ua x.l.length uc) 1 x.l.length (ints x.l)) (hf : x.Fine) (hd : s.ds.length < 100000) (h : SpAt w O R p s z) :
    Calls Tryz.prog 27 #[.pointer (some ⟨p, 0, none⟩), .agg #[.int .i64 x.k, .int .i64 x.r, .int .i64 x.n, .int .i64 x.b, .int .u64 x.v, .slice ua x.l.length uc, .int .i64 x.ek, .int .i64 x.ec]] w fun e w' => e = .returned (.tuple #[]) ∧ SpTo w w' O R p (s.putbS x.n).1 := by
  have r1 := (Fr.refl no w).alloc (.cells #[.int .i64 x.k, .int .i64 x.r, .int .i64 x.n, .int .i64 x.b, .int .u64 x.v, .slice ua x.l.length uc, .int .i64 x.ek, .int .i64 x.ec] 57)
  have hb1 := heap_new w (.cells #[.int .i64 x.k, .int .i64 x.r, .int .i64 x.n, .int .i64 x.b, .int .u64 x.v, .slice ua x.l.length uc, .int .i64 x.ek, .int .i64 x.ec] 57)
  have HB := Lib.hid hb1
  have R1 := Lib.hid r1
  have H := Lib.hid (h.fr r1)
  have HL := Lib.hid (hr.fr r1 (by simp))
  have HW : Hid (w.heap.size ≠ p ∧ ¬ O w.heap.size) := Lib.hid ⟨fun e => by have := h.lt p (.inl h.op); omega, fun e => by have := h.lt _ (.inl e); omega⟩
  obtain ⟨b0, b1, b2, b3, b4, b5, b6, b7⟩ := cells8 hb1
  have HF := Lib.hid hf
  have HD := Lib.hid hd
  obtain ⟨xk, xr, xn, xb, xv, xl, xek, xec⟩ := x
  dsimp only at *
  subst hk
  clear hb1 r1 h hr hf hd
  go_enter Tryz.func27, Tryz.ntmps27
  go_wp2_with fail
  refine (sputb_ok _ xn HD.out H.out).mono ?_
  rintro e w2 ⟨rfl, k⟩
  have HT := Lib.hid (k.pre R1.out)
  clear k

  go_wp2_with fail
  go_end0
  exact ⟨rfl, HT.out⟩
set_option maxHeartbeats 2000000 in
theorem act_10 (w : World) (x : Ax) (ua : Option Addr) (uc : Nat) (hk : x.k = 10) (hr : Reads w (.slice ua x.l.length uc) 1 x.l.length (ints x.l)) (hf : x.Fine) (hd : s.ds.length < 100000) (h : SpAt w O R p s z) :
    Calls Tryz.prog 27 #[.pointer (some ⟨p, 0, none⟩), .agg #[.int .i64 x.k, .int .i64 x.r, .int .i64 x.n, .int .i64 x.b, .int .u64 x.v, .slice ua x.l.length uc, .int .i64 x.ek, .int .i64 x.ec]] w fun e w' => e = .returned (.tuple #[]) ∧ SpTo w w' O R p (s.stoS x.v (u64of x.n)).1 := by
  have r1 := (Fr.refl no w).alloc (.cells #[.int .i64 x.k, .int .i64 x.r, .int .i64 x.n, .int .i64 x.b, .int .u64 x.v, .slice ua x.l.length uc, .int .i64 x.ek, .int .i64 x.ec] 57)
  have hb1 := heap_new w (.cells #[.int .i64 x.k, .int .i64 x.r, .int .i64 x.n, .int .i64 x.b, .int .u64 x.v, .slice ua x.l.length uc, .int .i64 x.ek, .int .i64 x.ec] 57)
  have HB := Lib.hid hb1
  have R1 := Lib.hid r1
  have H := Lib.hid (h.fr r1)
  have HL := Lib.hid (hr.fr r1 (by simp))
  have HW : Hid (w.heap.size ≠ p ∧ ¬ O w.heap.size) := Lib.hid ⟨fun e => by have := h.lt p (.inl h.op); omega, fun e => by have := h.lt _ (.inl e); omega⟩
  obtain ⟨b0, b1, b2, b3, b4, b5, b6, b7⟩ := cells8 hb1
  have HF := Lib.hid hf
  obtain ⟨xk, xr, xn, xb, xv, xl, xek, xec⟩ := x
  dsimp only at *
  subst hk
  clear hb1 r1 h hr hf hd
  go_enter Tryz.func27, Tryz.ntmps27
  go_upto_region 22 with (fail)
  generalize w.alloc (.cells #[.int .i64 10, .int .i64 xr, .int .i64 xn, .int .i64 xb, .int .u64 xv, .slice ua xl.length uc, .int .i64 xek, .int .i64 xec] 57) = w1 at *
  have H1 := Lib.hid (H.out.fr (Fr.refl no w1).drew)
  have hb2 := (Fr.refl no w1).drew.heap HB.out (by simp)
  have S1 : Hid (w1.drew.cell? ⟨w.heap.size, 4, none⟩ = some (.int .u64 xv) ∧ w1.drew.cell? ⟨w.heap.size, 2, none⟩ = some (.int .i64 xn)) := Lib.hid ⟨cell_of_heap hb2 rfl, cell_of_heap hb2 rfl⟩
  have HB2 := Lib.hid hb2
  have hwr := u64of_wrap xn
  have HU := Lib.hid (u64of_lt xn)
  clear hb2 b0 b1 b2 b3 b4 b5 b6 b7
  refine Lex.region [1, 7] [8] (by kernel_rfl) (by kernel_rfl) ?_
  refine Lex.opens (fun w' => w'.cell? ⟨w.heap.size, 4, none⟩ = some (.int .u64 xv) ∧ w'.cell? ⟨w.heap.size, 2, none⟩ = some (.int .i64 xn)) (S1.out) ?_
  repeat (first
    | (refine Lex.skips (by rfl) ?_; (try simp only [Act.put, List.setIfInBounds_toArray, List.set_cons_zero, List.set_cons_succ]))
    | (refine Lex.quiet (v := ?_) (by rfl) (by rfl) ?_ ?_; rotate_left; (focus (intro w' hS'; go_simp; try rfl)); (try simp only [Act.put, List.setIfInBounds_toArray, List.set_cons_zero, List.set_cons_succ])))
  refine Lex.loud (by rfl) (by rfl) ?_
  intro K' hK'
  go_simp
  refine (smemory_ok _ H1.out).mono ?_
  rintro e w' ⟨rfl, rfl⟩
  refine hK' _ _ (S1.out) ?_
  clear hK'
  try simp only [Act.put, List.setIfInBounds_toArray, List.set_cons_zero, List.set_cons_succ]
  repeat (first
    | (refine Lex.skips (by rfl) ?_; (try simp only [Act.put, List.setIfInBounds_toArray, List.set_cons_zero, List.set_cons_succ]))
    | (refine Lex.quiet (v := ?_) (by rfl) (by rfl) ?_ ?_; rotate_left; (focus (intro w' hS'; go_simp; try rfl)); (try simp only [Act.put, List.setIfInBounds_toArray, List.set_cons_zero, List.set_cons_succ])))
  refine Lex.loud (by rfl) (by rfl) ?_
  intro K' hK'
  go_simp
  refine (sto_ok _ xv (u64of xn) HF.out.v1 HU.out H1.out).mono ?_
  rintro e w2 ⟨rfl, h2, r2⟩
  have hb3 := r2.heap HB2.out HW.out.2
  have HT := Lib.hid (h2.to ((R1.out.to.trans (Fr.refl no w1).drew.to).trans r2))
  have S2 : Hid (w2.cell? ⟨w.heap.size, 4, none⟩ = some (.int .u64 xv) ∧ w2.cell? ⟨w.heap.size, 2, none⟩ = some (.int .i64 xn)) := Lib.hid ⟨cell_of_heap hb3 rfl, cell_of_heap hb3 rfl⟩
  clear h2 r2 hb3
  refine hK' _ _ (S2.out) ?_
  clear hK'
  try simp only [Act.put, List.setIfInBounds_toArray, List.set_cons_zero, List.set_cons_succ]
  refine Lex.done ?_
  refine Lex.ends ?_
  go_wp2_with fail
  go_end0
  exact ⟨rfl, HT.out⟩
set_option maxHeartbeats 2000000 in
theorem act_no (w : World) (x : Ax) (ua : Option Addr) (uc : Nat) (hk : x.k < 0 ∨ 10 < x.k) (hr : Reads w (.slice ua x.l.length uc) 1 x.l.length (ints x.l)) (hf : x.Fine) (hd : s.ds.length < 100000) (h : SpAt w O R p s z) :
    Calls Tryz.prog 27 #[.pointer (some ⟨p, 0, none⟩), .agg #[.int .i64 x.k, .int .i64 x.r, .int .i64 x.n, .int .i64 x.b, .int .u64 x.v, .slice ua x.l.length uc, .int .i64 x.ek, .int .i64 x.ec]] w fun e w' => e = .returned (.tuple #[]) ∧ SpTo w w' O R p s := by
  have r1 := (Fr.refl no w).alloc (.cells #[.int .i64 x.k, .int .i64 x.r, .int .i64 x.n, .int .i64 x.b, .int .u64 x.v, .slice ua x.l.length uc, .int .i64 x.ek, .int .i64 x.ec] 57)
  have hb1 := heap_new w (.cells #[.int .i64 x.k, .int .i64 x.r, .int .i64 x.n, .int .i64 x.b, .int .u64 x.v, .slice ua x.l.length uc, .int .i64 x.ek, .int .i64 x.ec] 57)
  have HB := Lib.hid hb1
  have R1 := Lib.hid r1
  have H := Lib.hid (h.fr r1)
  have HL := Lib.hid (hr.fr r1 (by simp))
  have HW : Hid (w.heap.size ≠ p ∧ ¬ O w.heap.size) := Lib.hid ⟨fun e => by have := h.lt p (.inl h.op); omega, fun e => by have := h.lt _ (.inl e); omega⟩
  obtain ⟨b0, b1, b2, b3, b4, b5, b6, b7⟩ := cells8 hb1
  have n0 : (x.k == 0) = false := beq_eq_false_iff_ne.2 (by omega)
  have n1 : (x.k == 1) = false := beq_eq_false_iff_ne.2 (by omega)
  have n2 : (x.k == 2) = false := beq_eq_false_iff_ne.2 (by omega)
  have n3 : (x.k == 3) = false := beq_eq_false_iff_ne.2 (by omega)
  have n4 : (x.k == 4) = false := beq_eq_false_iff_ne.2 (by omega)
  have n5 : (x.k == 5) = false := beq_eq_false_iff_ne.2 (by omega)
  have n6 : (x.k == 6) = false := beq_eq_false_iff_ne.2 (by omega)
  have n7 : (x.k == 7) = false := beq_eq_false_iff_ne.2 (by omega)
  have n8 : (x.k == 8) = false := beq_eq_false_iff_ne.2 (by omega)
  have n9 : (x.k == 9) = false := beq_eq_false_iff_ne.2 (by omega)
  have n10 : (x.k == 10) = false := beq_eq_false_iff_ne.2 (by omega)
  clear hb1 r1 h hr hf hd hk
  go_enter Tryz.func27, Tryz.ntmps27
  go_wp2_with fail
  go_end0
  exact ⟨rfl, H.out.to R1.out.to⟩
theorem act_ok (w : World) (x : Ax) (ua : Option Addr) (uc : Nat) (hr : Reads w (.slice ua x.l.length uc) 1 x.l.length (ints x.l)) (hf : x.Fine) (hd : s.ds.length < 100000) (hll : x.l.length ≤ 1000000) (h : SpAt w O R p s z) :
    Calls Tryz.prog 27 #[.pointer (some ⟨p, 0, none⟩), .agg #[.int .i64 x.k, .int .i64 x.r, .int .i64 x.n, .int .i64 x.b, .int .u64 x.v, .slice ua x.l.length uc, .int .i64 x.ek, .int .i64 x.ec]] w fun e w' => e = .returned (.tuple #[]) ∧ SpTo w w' O R p (s.actS x) := by
  by_cases h0 : x.k = 0
  · rw [show s.actS x = s from by simp [Zp.actS, h0]]; exact act_0 w x ua uc h0 hr hf hd h
  by_cases h1 : x.k = 1
  · rw [show s.actS x = (s.setS x.r x.v).1 from by simp [Zp.actS, h1]]; exact act_1 w x ua uc h1 hr hf hd h
  by_cases h2 : x.k = 2
  · rw [show s.actS x = (s.goS x.n).1 from by simp [Zp.actS, h2]]; exact act_2 w x ua uc h2 hr hf hd h
  by_cases h3 : x.k = 3
  · rw [show s.actS x = (s.burnS x.n).1 from by simp [Zp.actS, h3]]; exact act_3 w x ua uc h3 hr hf hd h
  by_cases h4 : x.k = 4
  · rw [show s.actS x = (s.callS x.n x.l x.r x.b).1 from by simp [Zp.actS, h4]]; exact act_4 w x ua uc h4 hr hf hd hll h
  by_cases h5 : x.k = 5
  · rw [show s.actS x = (s.callS x.n x.l x.r x.b).1 from by simp [Zp.actS, h5]]; exact act_5 w x ua uc h5 hr hf hd hll h
  by_cases h6 : x.k = 6
  · rw [show s.actS x = (s.retS x.v).1 from by simp [Zp.actS, h6]]; exact act_6 w x ua uc h6 hr hf hd h
  by_cases h7 : x.k = 7
  · rw [show s.actS x = (s.stopS (x.ek, x.ec)).1 from by simp [Zp.actS, h7]]; exact act_7 w x ua uc h7 hr hf hd h
  by_cases h8 : x.k = 8
  · rw [show s.actS x = (s.getbS).1 from by simp [Zp.actS, h8]]; exact act_8 w x ua uc h8 hr hf hd h
  by_cases h9 : x.k = 9
  · rw [show s.actS x = (s.putbS x.n).1 from by simp [Zp.actS, h9]]; exact act_9 w x ua uc h9 hr hf hd h
  by_cases h10 : x.k = 10
  · rw [show s.actS x = (s.stoS x.v (u64of x.n)).1 from by simp [Zp.actS, h10]]; exact act_10 w x ua uc h10 hr hf hd h
  rw [show s.actS x = s from by simp [Zp.actS, h0, h1, h2, h3, h4, h5, h6, h7, h8, h9, h10]]
  exact act_no w x ua uc (by omega) hr hf hd h

end Go.Proofs.YtihnkijeefkefaaGreat

set_option linter.unusedSimpArgs false
set_option linter.unusedVariables false
set_option linter.unusedSectionVars false
set_option linter.unnecessarySimpa false
set_option maxRecDepth 100000
/- What SpaceBack's calls leave. Plain. -/
namespace Go.Proofs.YtihnkijeefkefaaGreat

variable {s t : Zp}

theorem setS_len (h : s.Ok) (r : Int) (v : Nat) : (s.setS r v).1.b.length = s.b.length ∧ (s.setS r v).1.ds = s.ds := by
  unfold Zp.setS
  split
  · exact ⟨rfl, rfl⟩
  · rename_i he
    split
    · exact ⟨rfl, rfl⟩
    · rename_i hr
      exact ⟨wr8_len v (h.inR (by simpa using he) (by simpa using hr)).2.2.1, rfl⟩
theorem layS_b : ∀ (l : List Nat) (s : Zp) (k : Nat), s.at_ + 8 * (k + l.length) ≤ s.b.length → (s.layS k l).b.length = s.b.length ∧ ∀ i, s.at_ + 8 * (k + l.length) ≤ i → (s.layS k l).b[i]? = s.b[i]?
  | [], s, k, _ => ⟨rfl, fun _ _ => rfl⟩
  | v :: l, s, k, hk => by
    have hk' : s.at_ + 8 * (k + (l.length + 1)) ≤ s.b.length := hk
    have h8 : s.at_ + 8 * k + 8 ≤ s.b.length := by omega
    have hl := wr8_len v h8
    have ih := layS_b l (s.putR k v) (k + 1) (by show s.at_ + 8 * (k + 1 + l.length) ≤ (wr8 s.b (s.at_ + 8 * k) v).length; rw [hl]; omega)
    refine ⟨ih.1.trans hl, fun i hi => ?_⟩
    have hi' : s.at_ + 8 * (k + (l.length + 1)) ≤ i := hi
    exact (ih.2 i (by show s.at_ + 8 * (k + 1 + l.length) ≤ i; omega)).trans (wr8_get v h8 (.inr (by omega)))

/-- a call that went down -/
structure Down (s t : Zp) (f r : Nat) (back : Int) : Prop where
  m : t.m = s.m
  e : t.e = (0, 0)
  f : t.f = f
  pc : t.pc = 0
  le : t.at_ ≤ s.at_
  ls : t.ls = s.ls ++ [⟨s.f, s.at_, back, r⟩]
  bl : t.b.length = s.b.length
  rg : s.rg r = true
theorem zero_end {e : Dd} (h : e = (0, 0) ∨ mayE e = true) (h0 : e.1 = 0) : e = (0, 0) := by
  rcases h with h | h
  · exact h
  · obtain ⟨k, c⟩ := e
    have : k = 0 := h0
    subst this
    rw [mayE_else 0 c (by decide) (by decide) (by decide) (by decide)] at h
    simp at h
theorem call_cases (h : s.Ok) (f : Int) (args : List Int) (res back : Int) : (s.callS f args res back).1.ls.length = s.ls.length ∧ (s.callS f args res back).1.b.length = s.b.length ∧ (s.callS f args res back).1.ds = s.ds ∨
    ((s.callS f args res back).2 = 0 ∧ (s.callS f args res back).1.ds = s.ds ∧ s.e = (0, 0) ∧ ∃ fn rn : Nat, f = fn ∧ res = rn ∧ Down s (s.callS f args res back).1 fn rn back ∧ ∀ i, s.at_ ≤ i → (s.callS f args res back).1.b[i]? = s.b[i]?) := by
  unfold Zp.callS
  split
  · exact .inl ⟨rfl, rfl, rfl⟩
  · rename_i he
    split
    · exact .inl ⟨rfl, rfl, rfl⟩
    · rename_i hf
      split
      · exact .inl ⟨rfl, rfl, rfl⟩
      · rename_i hr
        split
        · exact .inl ⟨rfl, rfl, rfl⟩
        · rename_i hfl
          right
          have he : s.e.1 = 0 := by simpa using he
          simp only [Zp.badR, Bool.not_eq_true, Bool.or_eq_false_iff, Bool.not_eq_false'] at hr
          have hd := h.down he (by simpa using hf) hr.1.1 hr.1.2 (by simpa using hfl)
          simp only [Zp.badF, Bool.not_eq_true, decide_eq_false_iff_not, not_or] at hf
          have c := fnOf_ck h.ck (f := f.toNat) (by omega)
          have hfit := hd.fit (by show s.e.1 = 0; exact he)
          have hsz := fsz_ge c.2.2.2.2.1
          have hat : (s.down f res back).at_ = s.at_ - fsz (fnOf s.m f.toNat) := rfl
          have hfr : (fnOf (s.down f res back).m (s.down f res back).f) = fnOf s.m f.toNat := rfl
          rw [hfr] at hfit
          simp only [Zp.full, decide_eq_true_eq, not_or] at hfl
          have hlb : (s.down f res back).at_ + 8 * (0 + (s.argsS args).length) ≤ (s.down f res back).b.length := by
            refine Nat.le_trans ?_ hfit
            simp only [Zp.argsS, List.length_map]
            omega
          have hb := layS_b (s.argsS args) (s.down f res back) 0 hlb
          have sm := layS_same (s.argsS args) (s.down f res back) 0
          have hrr := hr.1.1
          simp only [Zp.rg, isRg, decide_eq_true_eq] at hrr
          have e0 := zero_end h.em he
          refine ⟨rfl, sm.2.2.2.1, e0, f.toNat, res.toNat, by omega, by omega, ⟨sm.1, ?_, sm.2.2.2.2.2.2.1, sm.2.2.2.2.2.2.2.1, ?_, ?_, hb.1, ?_⟩, fun i hi => ?_⟩
          · rw [sm.2.2.2.2.2.2.2.2.2]; exact e0
          · rw [sm.2.2.2.2.2.1, hat]; omega
          · rw [sm.2.2.2.2.2.2.2.2.1]
            show s.ls ++ [⟨s.f, s.at_, back, res⟩] = _
            rw [show ((res.toNat : Nat) : Int) = res by omega]
          · rw [show ((res.toNat : Nat) : Int) = res by omega]; exact hr.1.1
          · refine hb.2 i ?_
            simp only [Zp.argsS, List.length_map]
            rw [hat]
            omega
theorem Down.sto {f r : Nat} {back : Int} (h : Down s t f r back) (a v : Nat) : Down s (t.stoS a v).1 f r back := by
  unfold Zp.stoS
  split
  · rename_i hi
    simp only [inB, decide_eq_true_eq] at hi
    exact ⟨h.m, h.e, h.f, h.pc, h.le, h.ls, (wr8_len v hi.2).trans h.bl, h.rg⟩
  · exact h
theorem Down.ret {f r : Nat} {back : Int} (h : Down s t f r back) (v : Nat) : t.retS v = ({ t with ls := s.ls, f := s.f, at_ := s.at_, pc := back, b := wr8 t.b (s.at_ + 8 * r) v }, 0) := by
  rw [retS_0 (by rw [h.e]) h.ls]
  have hup : t.up ⟨s.f, s.at_, back, r⟩ = { t with ls := s.ls, f := s.f, at_ := s.at_, pc := back } := by
    unfold Zp.up
    rw [h.ls, List.dropLast_concat]
  rw [hup]
  have hrg : ({ t with ls := s.ls, f := s.f, at_ := s.at_, pc := back } : Zp).rg r = true := by
    show isRg t.m s.f r = true
    rw [h.m]
    exact h.rg
  rw [setS_0 (by show t.e.1 = 0; rw [h.e]) hrg]
  rfl
/-- what is there behind the return -/
structure Back (s u : Zp) (r v : Nat) (back : Int) : Prop where
  f : u.f = s.f
  at_ : u.at_ = s.at_
  ls : u.ls.length = s.ls.length
  pc : u.pc = back
  g : u.getS r = (v, 0)
  bl : u.b.length = s.b.length
theorem Down.back {f r : Nat} {back : Int} (h : Down s t f r back) (hs : s.Ok) (he : s.e = (0, 0)) {v : Nat} (hv : v < 18446744073709551616) :
    (t.retS v).2 = 0 ∧ Back s (t.retS v).1 r v back ∧ ∀ i, i < s.at_ + 8 * r ∨ s.at_ + 8 * r + 8 ≤ i → (t.retS v).1.b[i]? = t.b[i]? := by
  rw [h.ret v]
  have hin := hs.inR (by rw [he]) h.rg
  have h8 : s.at_ + 8 * r + 8 ≤ t.b.length := by rw [h.bl]; have := hin.2.2.1; simpa using this
  refine ⟨rfl, ⟨rfl, rfl, rfl, rfl, ?_, (wr8_len v h8).trans h.bl⟩, fun i hi => wr8_get v h8 hi⟩
  rw [getS_0 (by show t.e.1 = 0; rw [h.e]) (by show isRg t.m s.f r = true; rw [h.m]; exact h.rg)]
  show (rd8 (wr8 t.b (s.at_ + 8 * r) v) (s.at_ + 8 * r), (0 : Int)) = (v, 0)
  rw [rd8_wr8 h8 hv]
theorem actS_keep (h : s.Ok) (x : Ax) : (s.actS x).b.length = s.b.length ∧ (s.actS x).ds.length ≤ s.ds.length + 1 := by
  unfold Zp.actS
  split
  · exact ⟨rfl, by omega⟩
  split
  · have := setS_len h x.r x.v; rw [this.1, this.2]; exact ⟨rfl, by omega⟩
  split
  · unfold Zp.goS; split
    · exact ⟨rfl, by dsimp only; omega⟩
    · split <;> exact ⟨rfl, by dsimp only; omega⟩
  split
  · unfold Zp.burnS; split
    · exact ⟨rfl, by dsimp only; omega⟩
    · split <;> exact ⟨rfl, by dsimp only; omega⟩
  split
  · rcases call_cases h x.n x.l x.r x.b with h1 | h1
    · rw [h1.2.1, h1.2.2]; exact ⟨rfl, by omega⟩
    · obtain ⟨-, hd, -, fn, rn, -, -, hdn, -⟩ := h1
      rw [hdn.bl, hd]; exact ⟨rfl, by omega⟩
  split
  · unfold Zp.retS
    split
    · exact ⟨rfl, by dsimp only; omega⟩
    · rename_i he
      split
      · exact ⟨rfl, by dsimp only; omega⟩
      · rename_i y hy
        have := setS_len (h.up (by simpa using he) hy).1 y.res x.v
        rw [this.1, this.2]
        exact ⟨rfl, by show s.ds.length ≤ _; omega⟩
  split
  · unfold Zp.stopS; split
    · exact ⟨rfl, by dsimp only; omega⟩
    · split <;> exact ⟨rfl, by dsimp only; omega⟩
  split
  · unfold Zp.getbS; split
    · exact ⟨rfl, by dsimp only; omega⟩
    · exact ⟨rfl, by show (s.ds ++ [_]).length ≤ _; simp⟩
  split
  · unfold Zp.putbS; split
    · exact ⟨rfl, by dsimp only; omega⟩
    · exact ⟨rfl, by show (s.ds ++ [_]).length ≤ _; simp⟩
  split
  · unfold Zp.stoS; split
    · rename_i hi
      simp only [inB, decide_eq_true_eq] at hi
      exact ⟨wr8_len _ hi.2, by dsimp only; omega⟩
    · exact ⟨rfl, by dsimp only; omega⟩
  · exact ⟨rfl, by omega⟩

theorem newS_same (m : Mx) (n : Nat) (inp : List Nat) (fuel : Int) : (newS m n inp fuel).m = m ∧ (newS m n inp fuel).inp = inp ∧ (newS m n inp fuel).ls = [] ∧ (newS m n inp fuel).ds = [] ∧ (newS m n inp fuel).f = 0 ∧ (newS m n inp fuel).fuel = fuel := by
  unfold newS
  split
  · have sm := layS_same (List.replicate (fnOf m 0).p.toNat 0) (sp1 m n inp fuel) 0
    exact ⟨sm.1, sm.2.1, sm.2.2.2.2.2.2.2.2.1, sm.2.2.2.1, sm.2.2.2.2.2.2.1, sm.2.2.2.2.1⟩
  · exact ⟨rfl, rfl, rfl, rfl, rfl, rfl⟩
theorem NewArg.len {m : Mx} {n : Nat} {inp : List Nat} {fuel : Int} (h : NewArg m n inp fuel) : (newS m n inp fuel).b.length = n := by
  unfold newS
  cases hf : fits0 m n
  · exact h.blen
  · rw [if_pos rfl]
    have h1 := h.one hf
    have c := fnOf_ck h.ck h.fi
    have h2 := h1.fit rfl
    refine (layS_b _ _ 0 ?_).1.trans h.blen
    rw [List.length_replicate]
    refine Nat.le_trans ?_ h2
    show _ ≤ (sp1 m n inp fuel).at_ + 8 * (fnOf m 0).r.toNat
    omega

end Go.Proofs.YtihnkijeefkefaaGreat

set_option linter.unusedSimpArgs false
set_option linter.unusedVariables false
set_option linter.unusedSectionVars false
set_option linter.unnecessarySimpa false
set_option maxRecDepth 100000
/- Things that lie side by side in a world, and calls that turn one of them. -/
namespace Go.Proofs.YtihnkijeefkefaaGreat
open Go.RowKit

attribute [local go_sem] Program.isFuncB Program.isSliceB

variable {w w' w'' w0 : World} {O R : Nat → Prop} {A A' B B' : (Nat → Prop) → (Nat → Prop) → World → Prop}

/-- a thing: blocks that may turn, blocks that are read -/
structure Thing (T : (Nat → Prop) → (Nat → Prop) → World → Prop) : Prop where
  fr : ∀ (O R S : Nat → Prop) (w w' : World), T O R w → Fr S w w' → (∀ k, S k → k < w.heap.size → ¬ O k ∧ ¬ R k) → T O R w'
  lt : ∀ (O R : Nat → Prop) (w : World), T O R w → ∀ k, O k ∨ R k → k < w.heap.size
/-- behind a call: what it has of its own is what it had, or new -/
def ThTo (w w' : World) (O R : Nat → Prop) (T : (Nat → Prop) → (Nat → Prop) → World → Prop) : Prop := ∃ O', T O' R w' ∧ Fr O w w' ∧ ∀ k, O' k → O k ∨ w.heap.size ≤ k
theorem ThTo.pre {w1 : World} (h : ThTo w1 w' O R A) (r : Fr no w w1) : ThTo w w' O R A := by
  obtain ⟨O', h1, h2, h3⟩ := h
  exact ⟨O', h1, r.to.trans h2, fun k hk => (h3 k hk).imp id (fun h => Nat.le_trans r.size h)⟩
/-- two calls, one behind the other -/
theorem ThTo.trans {w1 w2 : World} {O1 : Nat → Prop} (r : Fr O w w1) (h4 : ∀ k, O1 k → O k ∨ w.heap.size ≤ k) (h : ThTo w1 w2 O1 R A) : ThTo w w2 O R A := by
  obtain ⟨O', h1, h2, h3⟩ := h
  refine ⟨O', h1, r.trans' h2 (fun k hk hn => (h4 k hk).elim (fun h => absurd h hn) id), fun k hk => ?_⟩
  · exact (h3 k hk).elim (h4 k) (fun h => .inr (Nat.le_trans r.size h))

/-- the program's space, and the document's -/
def SpT (p : Nat) (s : Zp) : (Nat → Prop) → (Nat → Prop) → World → Prop := fun O R w => ∃ z, SpAt w O R p s z
theorem spT (p : Nat) (s : Zp) : Thing (SpT p s) := ⟨fun O R S w w' ⟨z, h⟩ r hS => ⟨z, h.frx r hS⟩, fun O R w ⟨z, h⟩ => h.lt⟩
theorem SpTo.th {p : Nat} {s : Zp} (h : SpTo w w' O R p s) : ThTo w w' O R (SpT p s) := by
  obtain ⟨O', z', h1, h2, -, h4⟩ := h
  exact ⟨O', ⟨z', h1⟩, h2, h4⟩
/-- two things, apart -/
def Both (A B : (Nat → Prop) → (Nat → Prop) → World → Prop) : (Nat → Prop) → (Nat → Prop) → World → Prop := fun O R w =>
  ∃ O1 R1 O2 R2 : Nat → Prop, A O1 R1 w ∧ B O2 R2 w ∧ (∀ k, O1 k → ¬ O2 k ∧ ¬ R2 k) ∧ (∀ k, O2 k → ¬ R1 k) ∧ (∀ k, O k ↔ (O1 k ∨ O2 k)) ∧ ∀ k, R k ↔ (R1 k ∨ R2 k)
/-- a call that turns the first -/
theorem Both.left {f : Nat} {args : Array Value} {r : Ending} (ha : Thing A) (hb : Thing B) (h : Both A B O R w) (hc : ∀ O R, A O R w → Calls Tryz.prog f args w fun e w' => e = r ∧ ThTo w w' O R A') :
    Calls Tryz.prog f args w fun e w' => e = r ∧ ThTo w w' O R (Both A' B) := by
  obtain ⟨O1, R1, O2, R2, h1, h2, d1, d2, hO, hR⟩ := h
  have l2 := hb.lt _ _ _ h2
  have l1 := ha.lt _ _ _ h1
  refine (hc O1 R1 h1).mono ?_
  rintro e w' ⟨rfl, O', h', r, n⟩
  refine ⟨rfl, fun k => O' k ∨ O2 k, ⟨O', R1, O2, R2, h', hb.fr _ _ _ _ _ h2 r (fun k hk _ => d1 k hk), fun k hk => ?_, d2, fun k => Iff.rfl, hR⟩, r.mono (fun k hk _ => (hO k).2 (.inl hk)), fun k hk => ?_⟩
  · rcases n k hk with h | h
    · exact d1 k h
    · exact ⟨fun ho => by have := l2 k (.inl ho); omega, fun ho => by have := l2 k (.inr ho); omega⟩
  · rcases hk with hk | hk
    · exact (n k hk).imp (fun h => (hO k).2 (.inl h)) id
    · exact .inl ((hO k).2 (.inr hk))
/-- a call that turns the second -/
theorem Both.right {f : Nat} {args : Array Value} {r : Ending} (ha : Thing A) (hb : Thing B) (h : Both A B O R w) (hc : ∀ O R, B O R w → Calls Tryz.prog f args w fun e w' => e = r ∧ ThTo w w' O R B') :
    Calls Tryz.prog f args w fun e w' => e = r ∧ ThTo w w' O R (Both A B') := by
  obtain ⟨O1, R1, O2, R2, h1, h2, d1, d2, hO, hR⟩ := h
  have l1 := ha.lt _ _ _ h1
  refine (hc O2 R2 h2).mono ?_
  rintro e w' ⟨rfl, O', h', r, n⟩
  refine ⟨rfl, fun k => O1 k ∨ O' k, ⟨O1, R1, O', R2, ha.fr _ _ _ _ _ h1 r (fun k hk _ => ⟨fun h => (d1 k h).1 hk, d2 k hk⟩), h', fun k hk => ⟨fun ho => ?_, (d1 k hk).2⟩, fun k hk => ?_, fun k => Iff.rfl, hR⟩, r.mono (fun k hk _ => (hO k).2 (.inr hk)), fun k hk => ?_⟩
  · rcases n k ho with h | h
    · exact (d1 k hk).1 h
    · have := l1 k (.inl hk); omega
  · rcases n k hk with h | h
    · exact d2 k h
    · exact fun hr => by have := l1 k (.inr hr); omega
  · rcases hk with hk | hk
    · exact .inl ((hO k).2 (.inl hk))
    · exact (n k hk).imp (fun h => (hO k).2 (.inr h)) id
/-- a call that reads the first alone, or the second -/
theorem Both.at1 {φ : Prop} (h : Both A B O R w) (hc : ∀ O R, A O R w → φ) : φ := by
  obtain ⟨O1, R1, O2, R2, h1, h2, d1, d2, hO, hR⟩ := h
  exact hc _ _ h1
/-- a thing that is new since a world, apart from some blocks -/
def Held (w0 w : World) (T : (Nat → Prop) → (Nat → Prop) → World → Prop) (X : Nat → Prop) : Prop := ∃ O R, T O R w ∧ (∀ k, O k → w0.heap.size ≤ k ∧ ¬ X k) ∧ Fr no w0 w ∧ (∀ k, X k → k < w.heap.size) ∧ ∀ k, R k → ¬ X k
theorem Held.frame {X : Nat → Prop} (h : Held w0 w A X) : Fr no w0 w := by
  obtain ⟨O, R, -, -, r, -⟩ := h
  exact r
theorem Held.turn {X S : Nat → Prop} (ha : Thing A) (h : Held w0 w A X) (r : Fr S w w') (hS : ∀ k, S k → X k ∧ w0.heap.size ≤ k) : Held w0 w' A X := by
  obtain ⟨O, R, h, hO, r0, hX, hRX⟩ := h
  exact ⟨O, R, ha.fr _ _ _ _ _ h r (fun k hk _ => ⟨fun ho => (hO k ho).2 (hS k hk).1, fun hr => hRX k hr (hS k hk).1⟩), hO, r0.trans' r (fun k hk _ => (hS k hk).2), fun k hk => Nat.lt_of_lt_of_le (hX k hk) r.size, hRX⟩
theorem Held.fr {X : Nat → Prop} (ha : Thing A) (h : Held w0 w A X) (r : Fr no w w') : Held w0 w' A X := h.turn ha r (fun k hk => hk.elim)
theorem Held.call {X : Nat → Prop} {f : Nat} {args : Array Value} {r : Ending} (h : Held w0 w A X) (hc : ∀ O R, A O R w → Calls Tryz.prog f args w fun e w' => e = r ∧ ThTo w w' O R A') :
    Calls Tryz.prog f args w fun e w' => e = r ∧ Held w0 w' A' X ∧ Fr (fun k => ¬ X k ∧ w0.heap.size ≤ k) w w' := by
  obtain ⟨O, R, h, hO, r0, hX, hRX⟩ := h
  refine (hc O R h).mono ?_
  rintro e w' ⟨rfl, O', h', r, h2⟩
  exact ⟨rfl, ⟨O', R, h', fun k hk => (h2 k hk).elim (fun h => hO k h) (fun h => ⟨Nat.le_trans r0.size h, fun hx => by have := hX k hx; omega⟩), r0.trans' r (fun k hk _ => (hO k hk).1), fun k hk => Nat.lt_of_lt_of_le (hX k hk) r.size, hRX⟩, r.mono (fun k hk _ => ⟨(hO k hk).2, (hO k hk).1⟩)⟩
theorem Held.one {φ : Prop} {X : Nat → Prop} (h : Held w0 w A X) (hc : ∀ O R, A O R w → φ) : φ := by
  obtain ⟨O, R, h, -⟩ := h
  exact hc _ _ h

end Go.Proofs.YtihnkijeefkefaaGreat

set_option linter.unusedSimpArgs false
set_option linter.unusedVariables false
set_option linter.unusedSectionVars false
set_option linter.unnecessarySimpa false
set_option maxRecDepth 100000
/- SpaceBack. -/
namespace Go.Proofs.YtihnkijeefkefaaGreat
open Go.RowKit

attribute [local go_sem] Program.isFuncB Program.isSliceB

variable {w w' w'' w0 : World} {p : Nat} {s s' t : Zp}

/-- a space, the call's box, and the bytes that were read -/
structure BkAt (w0 w : World) (p : Nat) (s : Zp) (n5 vb vn : Nat) (cs : Array Value) (was : Value) (bs : List Nat) : Prop where
  held : Held w0 w (SpT p s) (fun k => k < n5 ∨ (vb ≤ k ∧ k < vn))
  box : w.heap[w0.heap.size + 1]? = some (.cells cs 57 (0, 0))
  row : w.ownsRow vb 5 1 was bs.length (u8s bs)
  rlt : ∀ k, was.ownBlock = some k → k < vn
  b5 : w0.heap.size + 1 < n5
theorem BkAt.step {S : Nat → Prop} {n5 vb vn : Nat} {cs : Array Value} {was : Value} {bs : List Nat} (h : BkAt w0 w p s n5 vb vn cs was bs) (r : Fr S w w') (hS : ∀ k, S k → ¬ (k < n5 ∨ (vb ≤ k ∧ k < vn))) (hh : Held w0 w' (SpT p s') (fun k => k < n5 ∨ (vb ≤ k ∧ k < vn))) : BkAt w0 w' p s' n5 vb vn cs was bs :=
  ⟨hh, r.heap h.box (fun hs => hS _ hs (.inl h.b5)), owns_fr h.row r (fun k hk hs => hS k hs (.inr ⟨(h.row.lt k hk).1, h.rlt k hk⟩)), h.rlt, h.b5⟩
theorem BkAt.fr {n5 vb vn : Nat} {cs : Array Value} {was : Value} {bs : List Nat} (h : BkAt w0 w p s n5 vb vn cs was bs) (r : Fr no w w') : BkAt w0 w' p s n5 vb vn cs was bs :=
  h.step r (fun k hk => hk.elim) (h.held.fr (spT p s) r)
theorem BkAt.call {f : Nat} {args : Array Value} {r : Ending} {n5 vb vn : Nat} {cs : Array Value} {was : Value} {bs : List Nat} (h : BkAt w0 w p s n5 vb vn cs was bs) (hc : ∀ O R z, SpAt w O R p s z → Calls Tryz.prog f args w fun e w' => e = r ∧ SpTo w w' O R p s') :
    Calls Tryz.prog f args w fun e w' => e = r ∧ BkAt w0 w' p s' n5 vb vn cs was bs := by
  refine (h.held.call (fun O R ⟨z, h⟩ => (hc O R z h).mono (fun e w' ⟨a, b⟩ => ⟨a, b.th⟩))).mono ?_
  rintro e w' ⟨rfl, hh, r⟩
  exact ⟨rfl, h.step r (fun k hk => hk.1) hh⟩
theorem BkAt.pure {φ : Prop} {n5 vb vn : Nat} {cs : Array Value} {was : Value} {bs : List Nat} (h : BkAt w0 w p s n5 vb vn cs was bs) (hc : ∀ O R z, SpAt w O R p s z → φ) : φ := by
  obtain ⟨O, R, ⟨z, h⟩, -⟩ := h.held
  exact hc O R z h
theorem BkAt.soft {f : Nat} {args : Array Value} {r : Ending} {n5 vb vn : Nat} {cs : Array Value} {was : Value} {bs : List Nat} (h : BkAt w0 w p s n5 vb vn cs was bs) (hc : ∀ O R z, SpAt w O R p s z → Calls Tryz.prog f args w fun e w' => e = r ∧ Fr no w w') :
    Calls Tryz.prog f args w fun e w' => e = r ∧ BkAt w0 w' p s n5 vb vn cs was bs := by
  obtain ⟨O, R, ⟨z, hz⟩, -⟩ := h.held
  refine (hc O R z hz).mono ?_
  rintro e w' ⟨rfl, r⟩
  exact ⟨rfl, h.fr r⟩
/-- a number is stored in its memory -/
theorem BkAt.sto {n5 vb vn : Nat} {cs : Array Value} {was : Value} {bs : List Nat} (h : BkAt w0 w p s n5 vb vn cs was bs) : ∃ q, (Calls Tryz.prog 30 #[.pointer (some ⟨p, 0, none⟩)] w fun e w' => e = .returned (.pointer (some ⟨q, 0, none⟩)) ∧ w = w') ∧
    ∀ a v : Nat, a < 18446744073709551616 → v < 18446744073709551616 → Calls Tryz.prog 33 #[.pointer (some ⟨q, 0, none⟩), .int .u64 a, .int .i64 8, .int .u64 v] w fun e w' => e = .returned (.int .i64 (s.stoS a v).2) ∧ BkAt w0 w' p (s.stoS a v).1 n5 vb vn cs was bs := by
  obtain ⟨O, R, ⟨z, hz⟩, hO, r0, hX, hRX⟩ := h.held
  refine ⟨z.q, smemory_ok w hz, fun a v ha hv => (sto_ok w a v ha hv hz).mono ?_⟩
  rintro e w' ⟨rfl, hz', r⟩
  exact ⟨rfl, h.step r (fun k hk => (hO k hk).2) ⟨O, R, ⟨z, hz'⟩, hO, r0.trans' r (fun k hk _ => (hO k hk).1), fun k hk => Nat.lt_of_lt_of_le (hX k hk) r.size, hRX⟩⟩
/-- has a register just this? (the law's question) -/
theorem shas_fr {O R : Nat → Prop} {z : Pz} (w : World) (r : Int) (v : Nat) (h : SpAt w O R p s z) :
    Calls Tryz.prog 34 #[.pointer (some ⟨p, 0, none⟩), .int .i64 r, .int .u64 v] w fun e w' => e = .returned (.bool (decide (s.getS r = (v, 0)))) ∧ Fr no w w' := by
  have HG := Lib.hid (sget_ok w r h)
  generalize hg : s.getS r = g at *
  obtain ⟨x, y⟩ := g
  have HD : Hid (decide ((x, y) = (v, (0 : Int))) = (decide (y = 0) && decide (((x : Nat) : Int) = v))) := Lib.hid (by
    by_cases h1 : x = v
    · by_cases h2 : y = 0
      · simp [h1, h2]
      · simp [h1, h2]
    · have : ¬ ((x : Nat) : Int) = v := by omega
      simp [h1, this])
  clear hg h
  by_cases hy : y = 0
  · subst hy
    go_enter Tryz.func34, Tryz.ntmps34
    go_wp2_with fail
    refine HG.out.mono ?_
    rintro e w1 ⟨rfl, h1⟩
    have H1 := Lib.hid h1
    clear h1
    go_wp2_with fail
    go_ret
    exact ⟨by rw [HD.out]; simp; rfl, H1.out⟩
  · have hyb : (y == 0) = false := beq_eq_false_iff_ne.2 hy
    go_enter Tryz.func34, Tryz.ntmps34
    go_wp2_with fail
    refine HG.out.mono ?_
    rintro e w1 ⟨rfl, h1⟩
    have H1 := Lib.hid h1
    clear h1
    go_wp2_with fail
    go_ret
    exact ⟨by rw [HD.out]; simp [hy], H1.out⟩
attribute [local irreducible] Zp.callS Zp.layS Zp.down Zp.argsS newS Zp.actS
set_option maxHeartbeats 16000000 in
theorem back15_ok (w : World) (m : Mx) (da : Option Addr) (dc : Nat) (fa : Option Addr) (fc : Nat) (mem : Int) (la : Option Addr) (lc : Nat) (l : List Ax) (x : Ax) (ua : Option Addr) (uc : Nat) (sa : Option Addr) (sc : Nat) (ss : List Int) (v : Nat)
    (hm : ModRd w m da dc fa fc) (hraw : m.Raw) (hwf : (Lit.int .i64 mem).wf = true) (hl : ActsIn w la l) (hll : l.length ≤ maxLen) (hr : Reads w (.slice ua x.l.length uc) 1 x.l.length (ints x.l)) (hf : x.Fine)
    (hs : Reads w (.slice sa ss.length sc) 1 ss.length (ss.map (.int .u64))) (hsw : ∀ a ∈ ss, 0 ≤ a ∧ a < 18446744073709551616) (hsl : ss.length ≤ maxLen) (hv : v < 18446744073709551616) :
    Calls Tryz.prog 5 #[.agg #[.slice da m.d.length dc, .slice fa m.f.length fc], .int .i64 mem, .slice la l.length lc, .agg #[.int .i64 x.k, .int .i64 x.r, .int .i64 x.n, .int .i64 x.b, .int .u64 x.v, .slice ua x.l.length uc, .int .i64 x.ek, .int .i64 x.ec], .slice sa ss.length sc, .int .u64 v] w fun e w' => e = .returned (.bool true) ∧ Fr no w w' := by
  obtain ⟨xk, xr, xn, xb, xv, xl, xek, xec⟩ := x
  dsimp only at *
  have r1 := (Fr.refl no w).alloc (.cells #[.slice da m.d.length dc, .slice fa m.f.length fc] 25)
  have hb1 := heap_new w (.cells #[.slice da m.d.length dc, .slice fa m.f.length fc] 25)
  have r2 := (Fr.refl no (w.alloc (.cells #[.slice da m.d.length dc, .slice fa m.f.length fc] 25))).alloc (.cells #[.int .i64 xk, .int .i64 xr, .int .i64 xn, .int .i64 xb, .int .u64 xv, .slice ua xl.length uc, .int .i64 xek, .int .i64 xec] 57)
  have hb2 := heap_new (w.alloc (.cells #[.slice da m.d.length dc, .slice fa m.f.length fc] 25)) (.cells #[.int .i64 xk, .int .i64 xr, .int .i64 xn, .int .i64 xb, .int .u64 xv, .slice ua xl.length uc, .int .i64 xek, .int .i64 xec] 57)
  rw [World.size_alloc] at hb2
  have R1 := Lib.hid (r1.trans r2)
  have HM1 := Lib.hid (r2.heap hb1 (by simp))
  have HB1 := Lib.hid hb2
  have HM := Lib.hid hm
  have HL := Lib.hid hl
  have HX := Lib.hid hr
  have HF := Lib.hid hf
  have HS := Lib.hid hs
  have HSW := Lib.hid hsw
  have HV := Lib.hid hv
  have HRAW := Lib.hid hraw
  have HLL := Lib.hid hll
  have HXL : Hid (xl.length ≤ maxLen) := Lib.hid hf.l1
  have hsl63 : ss.length ≤ 9223372036854775807 := by unfold maxLen at hsl; omega
  clear r1 hb1 r2 hb2 hm hl hr hf hs hsw hv hraw hll hsl
  go_enter Tryz.func5, Tryz.ntmps5
  go_wp2_with fail
  refine (known15_ok _).mono ?_
  rintro e w1 ⟨rfl, r1⟩
  have R2 := Lib.hid (R1.out.trans r1)
  have HM2 := Lib.hid (r1.heap HM1.out (by simp))
  have HB2 := Lib.hid (r1.heap HB1.out (by simp))
  clear r1
  go_wp2_with fail
  refine (pick_any w1 mem 250 hwf (by decide) (by decide)).mono ?_
  rintro e w' ⟨⟨kk, hkk, rfl⟩, rfl⟩
  have hw1 : IntKind.i64.wrap (1 + (kk : Int)) = 1 + (kk : Int) := by rw [IntKind.wrap_i64]; omega
  have hw2 : IntKind.i64.wrap (16 * (1 + (kk : Int))) = ((16 * (1 + kk) : Nat) : Int) := by rw [IntKind.wrap_i64]; omega
  obtain ⟨n, hn⟩ : ∃ n, n = 16 * (1 + kk) := ⟨_, rfl⟩
  have HN : Hid (16 ≤ n ∧ n ≤ 4000 ∧ n % 16 = 0) := Lib.hid (by omega)
  rw [← hn] at hw2
  clear hn hkk hwf
  have m0 := cell_of_heap (o := 0) HM2.out rfl
  have m1 := cell_of_heap (o := 1) HM2.out rfl
  go_wp2_with fail
  refine (longm_ok w1 m da dc fa fc (HM.out.fr R2.out).modIn HRAW.out).mono ?_
  rintro e w3 ⟨q, rfl, hq, r3⟩
  have R3 := Lib.hid (R2.out.trans r3)
  have HM3 := Lib.hid (r3.heap HM2.out (by simp))
  have HB3 := Lib.hid (r3.heap HB2.out (by simp))
  clear r3 m0 m1
  cases q
  case true =>
    clear hq
    go_wp2_with fail
    go_ret
    exact ⟨rfl, R3.out⟩
  have HFM := Lib.hid (hq rfl)
  clear hq
  have HSM : Hid m.Small := Lib.hid (LongM.small HRAW.out HFM.out)
  go_wp2_with fail
  refine (long15_ok w3 la lc l (HL.out.fr R3.out) HLL.out).mono ?_
  rintro e w4 ⟨rfl, r4⟩
  have R4 := Lib.hid (R3.out.trans r4)
  have HM4 := Lib.hid (r4.heap HM3.out (by simp))
  have HB4 := Lib.hid (r4.heap HB3.out (by simp))
  clear r4
  cases hlg : longA l
  case true =>
    clear hlg
    go_wp2_with fail
    go_ret
    exact ⟨rfl, R4.out⟩
  have HLA := Lib.hid (longA_false hlg)
  clear hlg
  have r5 := (Fr.refl no w4).alloc (.cells #[.int .i64 xk, .int .i64 xr, .int .i64 xn, .int .i64 xb, .int .u64 xv, .slice ua xl.length uc, .int .i64 xek, .int .i64 xec] 57)
  have hb5 := heap_new w4 (.cells #[.int .i64 xk, .int .i64 xr, .int .i64 xn, .int .i64 xb, .int .u64 xv, .slice ua xl.length uc, .int .i64 xek, .int .i64 xec] 57)
  have HLG := Lib.hid (long15_ok _ _ 1 [(⟨xk, xr, xn, xb, xv, xl, xek, xec⟩ : Ax)] (acts_one (x := (⟨xk, xr, xn, xb, xv, xl, xek, xec⟩ : Ax)) hb5 (HX.out.fr (R4.out.trans r5) (by simp)) HF.out) (by unfold maxLen; simp))
  have HAT : Hid (At w4 (w.heap.size + 1) 0 [.int .i64 xk, .int .i64 xr, .int .i64 xn, .int .i64 xb, .int .u64 xv, .slice ua xl.length uc, .int .i64 xek, .int .i64 xec]) := Lib.hid (At.of_heap HB4.out)
  have R5 := Lib.hid (R4.out.trans r5)
  have HM5 := Lib.hid (r5.heap HM4.out (by simp))
  have HB5 := Lib.hid (r5.heap HB4.out (by simp))
  clear r5 hb5
  obtain ⟨b0, b1, b2, b3, b4, b5, b6, b7⟩ := cells8n HB4.out
  go_wp2_with fail
  clear b0 b1 b2 b3 b4 b5 b6 b7
  refine HLG.out.mono ?_
  rintro e w6 ⟨rfl, r6⟩
  have R6 := Lib.hid (R5.out.trans r6)
  have HM6 := Lib.hid (r6.heap HM5.out (by simp))
  have HB6 := Lib.hid (r6.heap HB5.out (by simp))
  clear r6 HLG HAT
  cases hlx : longA [(⟨xk, xr, xn, xb, xv, xl, xek, xec⟩ : Ax)]
  case true =>
    clear hlx
    go_wp2_with fail
    go_ret
    exact ⟨rfl, R6.out⟩
  have HXA : Hid (xl.length ≤ 20) := Lib.hid ((longA_false hlx).2 (⟨xk, xr, xn, xb, xv, xl, xek, xec⟩ : Ax) (by simp))
  clear hlx
  by_cases hs20 : ss.length > 20
  · have hs20' : (ss.length : Int) > 20 := by omega
    go_wp2_with fail
    go_ret
    exact ⟨rfl, R6.out⟩
  have hs20' : ¬ (ss.length : Int) > 20 := by omega
  go_upto_region 5 with (fail)
  have m0 := cell_of_heap (o := 0) HM6.out rfl
  have m1 := cell_of_heap (o := 1) HM6.out rfl
  go_wp2_with fail
  have HMR := Lib.hid (HM.out.fr R6.out)
  have hmr0 := HMR.out
  by_cases hb : newBad m n 100
  case pos =>
    refine (snew_bad (inp := []) (ia := none) (ic := 0) w6 hmr0 HSM.out hb).mono ?_
    rintro e w7 ⟨rfl, r7⟩
    have R7 := Lib.hid (R6.out.trans r7)
    clear r7
    go_wp2_with fail
    go_ret
    exact ⟨rfl, R7.out⟩
  by_cases hfl : (n : Int) < flr m
  case pos =>
    refine (snew_full (inp := []) (ia := none) (ic := 0) w6 hmr0 HSM.out (.inl ⟨rfl, rfl, rfl⟩) (by decide) hb hfl).mono ?_
    rintro e w7 ⟨rfl, r7⟩
    have R7 := Lib.hid (R6.out.trans r7)
    clear r7
    go_wp2_with fail
    go_ret
    exact ⟨rfl, R7.out⟩
  have har : NewArg m n [] 100 := ⟨Decidable.not_not.1 (fun h => hb (.inl h)), HSM.out, HN.out.1, by have := HN.out.2.1; omega, HN.out.2.2, by omega, by decide, fun x hx => (by cases hx), by decide, by decide⟩
  have hnew := snew_ok (inp := []) (ia := none) (ic := 0) w6 hmr0 HSM.out (.inl ⟨rfl, rfl, rfl⟩) (by decide) (fun x hx => by cases hx) hb (by omega)
  rw [Int.toNat_natCast] at hnew
  refine hnew.mono ?_
  rintro e w7 ⟨p, O, R, z, rfl, hna⟩
  clear hnew hfl hb m0 m1 hmr0
  obtain ⟨hsp, hO, hRR, r7⟩ := hna
  have HBX : Hid (w.heap.size + 1 < w6.heap.size) := Lib.hid (Array.getElem?_eq_some_iff.1 HB6.out).1
  have HB7 := Lib.hid (r7.heap HB6.out (by simp))
  have hbl : (newS m n [] 100).b.length = n ∧ (newS m n [] 100).ds.length = 0 := ⟨har.len, by rw [(newS_same m n [] 100).2.2.2.1]; rfl⟩
  have HBL := Lib.hid hbl
  have HH7 : Hid (Held w w7 (SpT p (newS m n [] 100)) (fun k => k < w6.heap.size)) := Lib.hid ⟨O, R, ⟨z, hsp⟩, fun k hk => ⟨by have := hO k hk; have := R6.out.size; omega, fun hx => by have := hO k hk; omega⟩, R6.out.trans r7, fun k hk => Nat.lt_of_lt_of_le hk r7.size, fun k hk hx => by have := hRR k hk; omega⟩
  clear hsp hO hRR r7 hbl har
  go_wp2_with fail
  go_loopw [16] (fun y wr => ∃ (j : Nat) (s : Zp), j ≤ l.length ∧ y = .int .i64 j ∧ Hid (s.b.length = n ∧ s.ds.length ≤ j) ∧ Hid (Held w wr (SpT p s) (fun k => k < w6.heap.size)) ∧ Hid (wr.heap[w.heap.size + 1]? = some (.cells #[.int .i64 xk, .int .i64 xr, .int .i64 xn, .int .i64 xb, .int .u64 xv, .slice ua xl.length uc, .int .i64 xek, .int .i64 xec] 57 (0, 0)))) (fun y _ => (l.length - intOf y).toNat)
  case atStart => exact ⟨0, _, by omega, by simp, Lib.hid ⟨HBL.out.1, by rw [HBL.out.2]; omega⟩, HH7, HB7⟩
  case round =>
    obtain ⟨j, s, hj, rfl, hbd, hh, hbx⟩ := hrel
    by_cases hjl : j < l.length
    case pos =>
      have hlt : (j : Int) < l.length := by omega
      have hl50 := HLA.out.1
      obtain ⟨lb, lo, ua', uc', rfl, hat, hrd, hfx⟩ := (HL.out.fr hh.out.frame) j hjl
      have hxl := HLA.out.2 l[j] (List.getElem_mem hjl)
      have hdl : s.ds.length < 100000 := by have := hbd.out.2; have := HLA.out.1; omega
      generalize l[j] = y at *
      have HC : Hid (∀ O R, SpT p s O R wr → Calls Tryz.prog 27 #[.pointer (some ⟨p, 0, none⟩), .agg #[.int .i64 y.k, .int .i64 y.r, .int .i64 y.n, .int .i64 y.b, .int .u64 y.v, .slice ua' y.l.length uc', .int .i64 y.ek, .int .i64 y.ec]] wr fun e w' => e = .returned (.tuple #[]) ∧ ThTo wr w' O R (SpT p (s.actS y))) := Lib.hid (fun O R ⟨z, h⟩ => (act_ok wr y ua' uc' hrd hfx hdl (by omega) h).mono (fun e w' ⟨a, b⟩ => ⟨a, b.th⟩))
      have HAT : Hid (At wr lb (lo + j * 8) [.int .i64 y.k, .int .i64 y.r, .int .i64 y.n, .int .i64 y.b, .int .u64 y.v, .slice ua' y.l.length uc', .int .i64 y.ek, .int .i64 y.ec]) := Lib.hid hat
      have HOK : Hid s.Ok := Lib.hid (hh.out.one (fun O R ⟨z, h⟩ => h.ok))
      clear hat hrd hfx hxl hdl
      go_wp2_with ((refine wpList_load_in (o := ⟨some 67, .load 57 (.tmp 66), _, _, _, _⟩) rfl 57 (.tmp 66) rfl lb (lo + j * 8) rfl _ _ HAT.out Tryz.underlying57 rfl (by rw [Tryz.infoAct]; rfl) ?_))
      refine (hh.out.call HC.out).mono ?_
      rintro e w9 ⟨rfl, hh9, r9⟩
      have HH9 := Lib.hid hh9
      have HB9 := Lib.hid (r9.heap hbx.out (fun h => h.1 HBX.out))
      have HBD9 : Hid ((s.actS y).b.length = n ∧ (s.actS y).ds.length ≤ j + 1) := Lib.hid (by have h1 := actS_keep HOK.out y; have h2 := hbd.out; exact ⟨by rw [h1.1, h2.1], by omega⟩)
      clear hh9 r9 HC HAT
      go_wp2_with fail
      go_roundw
      case rel => exact ⟨j + 1, _, by omega, by go_num, HBD9, HH9, HB9⟩
      case measure => first | (simp [intOf]; done) | (simp [intOf]; omega)
    case neg =>
      obtain rfl : j = l.length := by omega
      have hlt : ¬ ((l.length : Nat) : Int) < l.length := by omega
      go_wp2_with fail
      refine (hh.out.one (fun O R ⟨z, h⟩ => sfunc_ok wr h)).mono ?_
      rintro e w' ⟨rfl, rfl⟩
      go_wp2_with fail
      refine (hh.out.one (fun O R ⟨z, h⟩ => sat_ok wr h)).mono ?_
      rintro e w' ⟨rfl, rfl⟩
      go_wp2_with fail
      refine (hh.out.one (fun O R ⟨z, h⟩ => sdepth_ok wr h)).mono ?_
      rintro e w' ⟨rfl, rfl⟩
      obtain ⟨O, R, ⟨z, hz⟩, hO, r0, hX, hRX⟩ := hh.out
      have HOK : Hid s.Ok := Lib.hid hz.ok
      obtain ⟨sf, hsf⟩ : ∃ sf : Nat, s.f = sf := ⟨_, rfl⟩
      obtain ⟨at_, hat⟩ : ∃ at_ : Nat, s.at_ = at_ := ⟨_, rfl⟩
      obtain ⟨dp, hdp⟩ : ∃ dp : Nat, s.ls.length = dp := ⟨_, rfl⟩
      obtain ⟨k, hk⟩ : ∃ k : Nat, k = n - at_ := ⟨_, rfl⟩
      have hal : at_ ≤ n ∧ 16 ≤ at_ := by have h1 := hz.ok.al; have h2 := hz.ok.lo; have h3 := flr_ge s.m; have h4 := hbd.out.1; omega
      have hwc : IntKind.i64.wrap (at_ : Int) = at_ := by have := HN.out; rw [IntKind.wrap_i64]; omega
      have hws : IntKind.i64.wrap ((n : Int) - at_) = (k : Int) := by have := HN.out; rw [IntKind.wrap_i64]; omega
      have HK : Hid (k = n - at_ ∧ at_ ≤ n ∧ 16 ≤ at_) := Lib.hid ⟨hk, hal.1, hal.2⟩
      have HQ : Hid (SpAt wr O R p s z) := Lib.hid hz
      have HO : Hid (∀ k, O k → w.heap.size ≤ k ∧ ¬ k < w6.heap.size) := Lib.hid hO
      have HRX : Hid (∀ k, R k → ¬ k < w6.heap.size) := Lib.hid hRX
      have HXX : Hid (∀ k, k < w6.heap.size → k < wr.heap.size) := Lib.hid hX
      have R0 := Lib.hid r0
      have HBY := Lib.hid (bytes_ok wr at_ k hz.mem (by have := HN.out; omega) (by have := HN.out; omega) (by have := hbd.out.1; have := HN.out; omega) (by have := hbd.out.1; simp only [inB, decide_eq_true_eq]; omega))
      have HSF := Lib.hid hsf
      have HSA := Lib.hid hat
      have HDP := Lib.hid hdp
      rw [hsf, hat, hdp]
      clear hz hO r0 hX hRX hal hk hsf hat hdp hh
      go_wp2_with fail
      refine (smemory_ok wr HQ.out).mono ?_
      rintro e w' ⟨rfl, rfl⟩
      go_wp2_with fail
      refine HBY.out.mono ?_
      rintro e w8 ⟨xw, rfl, hx, r8⟩
      obtain ⟨wa, wc, rfl⟩ := owns_shape hx
      have HW0 : Hid (((s.b.drop at_).take k).length = k) := Lib.hid (by have := hbd.out.1; have := HK.out; simp; omega)
      obtain ⟨ws, hws0⟩ : ∃ ws : List Nat, ws = (s.b.drop at_).take k := ⟨_, rfl⟩
      have HWS := Lib.hid hws0
      rw [← hws0] at hx HW0
      have R8 := Lib.hid (R0.out.trans r8)
      have hbk : BkAt w w8 p s w6.heap.size wr.heap.size w8.heap.size #[.int .i64 xk, .int .i64 xr, .int .i64 xn, .int .i64 xb, .int .u64 xv, .slice ua xl.length uc, .int .i64 xek, .int .i64 xec] (.slice wa k wc) ws := ⟨⟨O, R, ⟨z, HQ.out.fr r8⟩, fun i hi => ⟨(HO.out i hi).1, fun hx => by
        have h1 := HQ.out.lt i (.inl hi); rcases hx with hx | hx
        · exact (HO.out i hi).2 hx
        · omega⟩, R0.out.trans r8, fun i hi => by
        have := r8.size; rcases hi with hi | hi
        · have := HXX.out i hi; omega
        · exact hi.2, fun i hi hx => by
        have h1 := HQ.out.lt i (.inr hi); rcases hx with hx | hx
        · exact HRX.out i hi hx
        · omega⟩, r8.heap hbx.out (by simp), by rw [HW0.out]; exact hx, fun i hi => (hx.lt i hi).2, HBX.out⟩
      have HBK := Lib.hid hbk
      obtain ⟨wB, hwB⟩ : ∃ wB, wB = wr.heap.size := ⟨_, rfl⟩
      rw [← hwB] at HBK
      clear hx r8 hbk hws0 HBY hwB
      have hbd0 := hbd.out.1
      -- the call
      have HCALL : Hid (∀ O R z, SpAt w8 O R p s z → Calls Tryz.prog 18 #[.pointer (some ⟨p, 0, none⟩), .int .i64 xn, .slice ua xl.length uc, .int .i64 xr, .int .i64 xb] w8 fun e w' => e = .returned (.int .i64 (s.callS xn xl xr xb).2) ∧ SpTo w8 w' O R p (s.callS xn xl xr xb).1) := Lib.hid (fun O R z h => scall_ok w8 h (by have := HXA.out; omega) (HX.out.fr HBK.out.held.frame (by simp)))
      have hcc := call_cases HOK.out xn xl xr xb
      generalize (s.callS xn xl xr xb).1 = t at *
      generalize (s.callS xn xl xr xb).2 = c at *
      obtain ⟨b0, b1, b2, b3, b4, b5, b6, b7⟩ := cells8n HBK.out.box
      clear hbd0
      rcases hcc with ⟨hl1, -, -⟩ | ⟨rfl, -, he0, fn, rn, rfl, rfl, hdn, hby⟩
      · have HL1 := Lib.hid (hl1.trans HDP.out)
        clear hl1
        go_wp2_with fail
        refine (HBK.out.call HCALL.out).mono ?_
        rintro e w9 ⟨rfl, hk9⟩
        have HK9 := Lib.hid hk9
        clear hk9
        by_cases hc0 : c = 0
        · subst hc0
          go_wp2_with fail
          refine (HK9.out.pure (fun O R z h => sdepth_ok w9 h)).mono ?_
          rintro e w' ⟨rfl, rfl⟩
          rw [HL1.out]
          go_wp2_with fail
          refine (HK9.out.pure (fun O R z h => sdepth_ok w9 h)).mono ?_
          rintro e w' ⟨rfl, rfl⟩
          rw [HL1.out]
          go_wp2_with fail
          go_ret
          exact ⟨rfl, HK9.out.held.frame⟩
        · have hc1 : (c != 0) = true := bne_iff_ne.2 hc0
          go_wp2_with fail
          refine (HK9.out.pure (fun O R z h => sdepth_ok w9 h)).mono ?_
          rintro e w' ⟨rfl, rfl⟩
          rw [HL1.out]
          go_wp2_with fail
          go_ret
          exact ⟨rfl, HK9.out.held.frame⟩
      · have HDN := Lib.hid hdn
        have HBYT := Lib.hid hby
        have HE0 := Lib.hid he0
        have HDL : Hid (t.ls.length = dp + 1) := Lib.hid (by rw [hdn.ls, List.length_append, HDP.out]; rfl)
        obtain ⟨d1, hd1⟩ : ∃ d1 : Nat, d1 = dp + 1 := ⟨_, rfl⟩
        have hdw : IntKind.i64.wrap ((dp : Int) + 1) = (d1 : Int) := by have := HOK.out.ll; have := HDP.out; rw [IntKind.wrap_i64]; omega
        have hdne : ¬ (d1 : Int) = dp := by omega
        have hdnb : ((d1 : Int) == dp) = false := beq_eq_false_iff_ne.2 hdne
        rw [← hd1] at HDL
        have hta : ∃ ta : Nat, t.at_ = ta ∧ ¬ (ta : Int) > at_ := ⟨t.at_, rfl, by have := hdn.le; have := HSA.out; omega⟩
        obtain ⟨ta, hta, htgt⟩ := hta
        have HTA := Lib.hid hta
        have HD1 := Lib.hid hd1
        have hdec : decide ((at_ : Int) < ta) = false := decide_eq_false (by omega)
        have hdecN : decide (at_ < ta) = false := decide_eq_false (by omega)
        have hnat : ¬ at_ < ta := by omega
        have hnal : ta ≤ at_ := by omega
        clear hdn hby he0 hta hd1 hdne
        go_wp2_with fail
        refine (HBK.out.call HCALL.out).mono ?_
        rintro e w9 ⟨rfl, hk9⟩
        have HK9 := Lib.hid hk9
        clear hk9
        go_wp2_with fail
        refine (HK9.out.pure (fun O R z h => sdepth_ok w9 h)).mono ?_
        rintro e w' ⟨rfl, rfl⟩
        rw [HDL.out]
        clear b0 b1 b2 b3 b4 b5 b6 b7
        go_upto_region 16 with (fail)
        have HK10 := Lib.hid (HK9.out.fr (Fr.refl no w9).drew)
        have S10 : Hid ((fun w' : World => w'.cell? ⟨w.heap.size + 1, 2, none⟩ = some (.int .i64 fn)) w9.drew) := Lib.hid (cell_of_heap HK10.out.box rfl)
        refine Lex.region [4, 11, 16, 22] [27] (by kernel_rfl) (by kernel_rfl) ?_
        refine Lex.opens (fun w' => w'.cell? ⟨w.heap.size + 1, 2, none⟩ = some (.int .i64 fn)) (S10.out) ?_
        repeat (first
          | (refine Lex.skips (by rfl) ?_; (try simp only [Act.put, List.setIfInBounds_toArray, List.set_cons_zero, List.set_cons_succ]))
          | (refine Lex.quiet (v := ?_) (by rfl) (by rfl) ?_ ?_; rotate_left; (focus (intro w' hS'; go_simp; try rfl)); (try simp only [Act.put, List.setIfInBounds_toArray, List.set_cons_zero, List.set_cons_succ])))
        refine Lex.loud (by rfl) (by rfl) ?_
        intro K' hK'
        go_simp
        refine (HK10.out.pure (fun O R z h => sfunc_ok _ h)).mono ?_
        rintro e w' ⟨rfl, rfl⟩
        rw [HDN.out.f]
        refine hK' _ _ (S10.out) ?_
        clear hK'
        try simp only [Act.put, List.setIfInBounds_toArray, List.set_cons_zero, List.set_cons_succ]
        repeat (first
          | (refine Lex.skips (by rfl) ?_; (try simp only [Act.put, List.setIfInBounds_toArray, List.set_cons_zero, List.set_cons_succ]))
          | (refine Lex.quiet (v := ?_) (by rfl) (by rfl) ?_ ?_; rotate_left; (focus (intro w' hS'; go_simp; try rfl)); (try simp only [Act.put, List.setIfInBounds_toArray, List.set_cons_zero, List.set_cons_succ])))
        refine Lex.loud (by rfl) (by rfl) ?_
        intro K' hK'
        go_simp
        refine (HK10.out.pure (fun O R z h => splace2_ok _ h)).mono ?_
        rintro e w' ⟨rfl, rfl⟩
        rw [HDN.out.pc]
        refine hK' _ _ (S10.out) ?_
        clear hK'
        try simp only [Act.put, List.setIfInBounds_toArray, List.set_cons_zero, List.set_cons_succ]
        repeat (first
          | (refine Lex.skips (by rfl) ?_; (try simp only [Act.put, List.setIfInBounds_toArray, List.set_cons_zero, List.set_cons_succ]))
          | (refine Lex.quiet (v := ?_) (by rfl) (by rfl) ?_ ?_; rotate_left; (focus (intro w' hS'; go_simp; try rfl)); (try simp only [Act.put, List.setIfInBounds_toArray, List.set_cons_zero, List.set_cons_succ])))
        refine Lex.loud (by rfl) (by rfl) ?_
        intro K' hK'
        go_simp
        refine (HK10.out.pure (fun O R z h => sat_ok _ h)).mono ?_
        rintro e w' ⟨rfl, rfl⟩
        rw [HTA.out]
        refine hK' _ _ (S10.out) ?_
        clear hK'
        try simp only [Act.put, List.setIfInBounds_toArray, List.set_cons_zero, List.set_cons_succ]
        repeat (first
          | (refine Lex.skips (by rfl) ?_; (try simp only [Act.put, List.setIfInBounds_toArray, List.set_cons_zero, List.set_cons_succ]))
          | (refine Lex.quiet (v := ?_) (by rfl) (by rfl) ?_ ?_; rotate_left; (focus (intro w' hS'; go_simp; try rfl)); (try simp only [Act.put, List.setIfInBounds_toArray, List.set_cons_zero, List.set_cons_succ])))
        refine Lex.loud (by rfl) (by rfl) ?_
        intro K' hK'
        go_simp
        refine (HK10.out.pure (fun O R z h => sdepth_ok _ h)).mono ?_
        rintro e w' ⟨rfl, rfl⟩
        rw [HDL.out]
        refine hK' _ _ (S10.out) ?_
        clear hK'
        try simp only [Act.put, List.setIfInBounds_toArray, List.set_cons_zero, List.set_cons_succ]
        repeat (first
          | (refine Lex.skips (by rfl) ?_; (try simp only [Act.put, List.setIfInBounds_toArray, List.set_cons_zero, List.set_cons_succ]))
          | (refine Lex.quiet (v := ?_) (by rfl) (by rfl) ?_ ?_; rotate_left; (focus (intro w' hS'; go_simp; try rfl)); (try simp only [Act.put, List.setIfInBounds_toArray, List.set_cons_zero, List.set_cons_succ])))
        refine Lex.done ?_
        refine Lex.ends ?_
        generalize w9.drew = w10 at *
        go_wp2_with fail
        go_loopw [22] (fun y wr => ∃ (j : Nat) (t : Zp), j ≤ ss.length ∧ y = .int .i64 j ∧ Hid (Down s t fn rn xb) ∧ Hid (BkAt w wr p t w6.heap.size wB w8.heap.size #[.int .i64 xk, .int .i64 rn, .int .i64 fn, .int .i64 xb, .int .u64 xv, .slice ua xl.length uc, .int .i64 xek, .int .i64 xec] (.slice wa k wc) ws) ∧ Hid (ss.length = 0 → ∀ i, s.at_ ≤ i → t.b[i]? = s.b[i]?)) (fun y _ => (ss.length - intOf y).toNat)
        case atStart => exact ⟨0, t, by omega, by simp, HDN, HK10, Lib.hid (fun _ => HBYT.out)⟩
        case round =>
          obtain ⟨j, u, hj, rfl, hdn, hbk, hby⟩ := hrel
          by_cases hjl : j < ss.length
          case pos =>
            have hlt : (j : Int) < ss.length := by omega
            obtain ⟨vb, vo, rfl, hc⟩ := (HS.out.fr hbk.out.held.frame (by simp)).at1 (k := j) (u := .int .u64 ss[j]) (by simp [hjl])
            have hsj := HSW.out ss[j] (List.getElem_mem hjl)
            have FC : Hid (∀ w', Fr no w w' → w'.cell? ⟨vb, vo + j, none⟩ = some (.int .u64 ss[j])) := Lib.hid (fun w' r => by
              obtain ⟨vb', vo', e, hc'⟩ := (HS.out.fr r (by simp)).at1 (k := j) (u := .int .u64 ss[j]) (by simp [hjl])
              cases e
              exact hc')
            have hss0 : ¬ ss.length = 0 := by omega
            generalize ss[j] = sj at *
            obtain ⟨a, rfl⟩ : ∃ a : Nat, sj = a := ⟨sj.toNat, by omega⟩
            have HA : Hid (a < 18446744073709551616) := Lib.hid (by omega)
            have HSS : Hid (¬ ss.length = 0) := Lib.hid hss0
            clear hc hsj hss0
            go_upto_region 21 with (fail)
            have HK11 := Lib.hid (hbk.out.fr (Fr.refl no wr).drew)
            have S11 := Lib.hid (FC.out _ HK11.out.held.frame)
            obtain ⟨qq, hmq, hst⟩ := HK11.out.sto
            have HMQ := Lib.hid hmq
            have HST := Lib.hid (hst a v HA.out HV.out)
            clear hmq hst
            refine Lex.region [1, 7] [8] (by kernel_rfl) (by kernel_rfl) ?_
            refine Lex.opens (fun w' => w'.cell? ⟨vb, vo + j, none⟩ = some (.int .u64 a)) (S11.out) ?_
            repeat (first
              | (refine Lex.skips (by rfl) ?_; (try simp only [Act.put, List.setIfInBounds_toArray, List.set_cons_zero, List.set_cons_succ]))
              | (refine Lex.quiet (v := ?_) (by rfl) (by rfl) ?_ ?_; rotate_left; (focus (intro w' hS'; go_simp; try rfl)); (try simp only [Act.put, List.setIfInBounds_toArray, List.set_cons_zero, List.set_cons_succ])))
            refine Lex.loud (by rfl) (by rfl) ?_
            intro K' hK'
            go_simp
            refine HMQ.out.mono ?_
            rintro e w' ⟨rfl, rfl⟩
            refine hK' _ _ (S11.out) ?_
            clear hK'
            try simp only [Act.put, List.setIfInBounds_toArray, List.set_cons_zero, List.set_cons_succ]
            repeat (first
              | (refine Lex.skips (by rfl) ?_; (try simp only [Act.put, List.setIfInBounds_toArray, List.set_cons_zero, List.set_cons_succ]))
              | (refine Lex.quiet (v := ?_) (by rfl) (by rfl) ?_ ?_; rotate_left; (focus (intro w' hS'; go_simp; try rfl)); (try simp only [Act.put, List.setIfInBounds_toArray, List.set_cons_zero, List.set_cons_succ])))
            refine Lex.loud (by rfl) (by rfl) ?_
            intro K' hK'
            go_simp
            refine HST.out.mono ?_
            rintro e w12 ⟨rfl, hk12⟩
            have HK12 := Lib.hid hk12
            have S12 := Lib.hid (FC.out _ hk12.held.frame)
            clear hk12
            refine hK' _ _ (S12.out) ?_
            clear hK'
            try simp only [Act.put, List.setIfInBounds_toArray, List.set_cons_zero, List.set_cons_succ]
            refine Lex.done ?_
            refine Lex.ends ?_
            go_wp2_with fail
            go_roundw
            case rel => exact ⟨j + 1, _, by omega, by go_num, Lib.hid (hdn.out.sto a v), HK12, Lib.hid (fun h => absurd h HSS.out)⟩
            case measure => first | (simp [intOf]; done) | (simp [intOf]; omega)
          case neg =>
            obtain rfl : j = ss.length := by omega
            have hlt : ¬ ((ss.length : Nat) : Int) < ss.length := by omega
            have hbb := hdn.out.back HOK.out HE0.out HV.out
            have HRET : Hid (∀ O R z, SpAt wr.drew O R p u z → Calls Tryz.prog 20 #[.pointer (some ⟨p, 0, none⟩), .int .u64 v] wr.drew fun e w' => e = .returned (.int .i64 0) ∧ SpTo wr.drew w' O R p (u.retS v).1) := Lib.hid (fun O R z h => by
              have := sreturn_ok wr.drew v HV.out h
              rw [hbb.1] at this
              exact this)
            obtain ⟨-, hb2, hb3⟩ := hbb
            generalize (u.retS v).1 = q at *
            have HQF := Lib.hid (hb2.f.trans HSF.out)
            have HQA := Lib.hid (hb2.at_.trans HSA.out)
            have HQD := Lib.hid (hb2.ls.trans HDP.out)
            have HQP := Lib.hid hb2.pc
            have HQG := Lib.hid hb2.g
            have HQB : Hid (q.b.length = n) := Lib.hid (hb2.bl.trans hbd.out.1)
            have HQY : Hid (ss.length = 0 → ∀ i, s.at_ ≤ i → (i < s.at_ + 8 * rn ∨ s.at_ + 8 * rn + 8 ≤ i) → q.b[i]? = s.b[i]?) := Lib.hid (fun h i h1 h2 => (hb3 i h2).trans (hby.out h i h1))
            have hrn : rn < 64 := by have := (HOK.out.inR (by rw [HE0.out]) hdn.out.rg).2.1; omega
            have HRN := Lib.hid hrn
            clear hb2 hb3 hrn
            go_upto_region 22 with (fail)
            have HK13 := Lib.hid (hbk.out.fr (Fr.refl no wr).drew)
            have SB : Hid (∀ w' t, BkAt w w' p t w6.heap.size wB w8.heap.size #[.int .i64 xk, .int .i64 rn, .int .i64 fn, .int .i64 xb, .int .u64 xv, .slice ua xl.length uc, .int .i64 xek, .int .i64 xec] (.slice wa k wc) ws → w'.cell? ⟨w.heap.size + 1, 3, none⟩ = some (.int .i64 xb) ∧ w'.cell? ⟨w.heap.size + 1, 1, none⟩ = some (.int .i64 rn)) := Lib.hid (fun w' t h => ⟨cell_of_heap h.box rfl, cell_of_heap h.box rfl⟩)
            have S13 := Lib.hid (SB.out _ _ HK13.out)
            refine Lex.region [2, 6, 12, 18, 24, 34] [37] (by kernel_rfl) (by kernel_rfl) ?_
            refine Lex.opens (fun w' => w'.cell? ⟨w.heap.size + 1, 3, none⟩ = some (.int .i64 xb) ∧ w'.cell? ⟨w.heap.size + 1, 1, none⟩ = some (.int .i64 rn)) (S13.out) ?_
            repeat (first
              | (refine Lex.skips (by rfl) ?_; (try simp only [Act.put, List.setIfInBounds_toArray, List.set_cons_zero, List.set_cons_succ]))
              | (refine Lex.quiet (v := ?_) (by rfl) (by rfl) ?_ ?_; rotate_left; (focus (intro w' hS'; go_simp; try rfl)); (try simp only [Act.put, List.setIfInBounds_toArray, List.set_cons_zero, List.set_cons_succ])))
            refine Lex.loud (by rfl) (by rfl) ?_
            intro K' hK'
            go_simp
            refine (HK13.out.call HRET.out).mono ?_
            rintro e w14 ⟨rfl, hk14⟩
            have HK14 := Lib.hid hk14
            have S14 := Lib.hid (SB.out _ _ hk14)
            clear hk14
            refine hK' _ _ (S14.out) ?_
            clear hK'
            try simp only [Act.put, List.setIfInBounds_toArray, List.set_cons_zero, List.set_cons_succ]
            repeat (first
              | (refine Lex.skips (by rfl) ?_; (try simp only [Act.put, List.setIfInBounds_toArray, List.set_cons_zero, List.set_cons_succ]))
              | (refine Lex.quiet (v := ?_) (by rfl) (by rfl) ?_ ?_; rotate_left; (focus (intro w' hS'; go_simp; try rfl)); (try simp only [Act.put, List.setIfInBounds_toArray, List.set_cons_zero, List.set_cons_succ])))
            refine Lex.loud (by rfl) (by rfl) ?_
            intro K' hK'
            go_simp
            refine (HK14.out.pure (fun O R z h => sfunc_ok _ h)).mono ?_
            rintro e w' ⟨rfl, rfl⟩
            rw [HQF.out]
            refine hK' _ _ (S14.out) ?_
            clear hK'
            try simp only [Act.put, List.setIfInBounds_toArray, List.set_cons_zero, List.set_cons_succ]
            repeat (first
              | (refine Lex.skips (by rfl) ?_; (try simp only [Act.put, List.setIfInBounds_toArray, List.set_cons_zero, List.set_cons_succ]))
              | (refine Lex.quiet (v := ?_) (by rfl) (by rfl) ?_ ?_; rotate_left; (focus (intro w' hS'; go_simp; try rfl)); (try simp only [Act.put, List.setIfInBounds_toArray, List.set_cons_zero, List.set_cons_succ])))
            refine Lex.loud (by rfl) (by rfl) ?_
            intro K' hK'
            go_simp
            refine (HK14.out.pure (fun O R z h => sat_ok _ h)).mono ?_
            rintro e w' ⟨rfl, rfl⟩
            rw [HQA.out]
            refine hK' _ _ (S14.out) ?_
            clear hK'
            try simp only [Act.put, List.setIfInBounds_toArray, List.set_cons_zero, List.set_cons_succ]
            repeat (first
              | (refine Lex.skips (by rfl) ?_; (try simp only [Act.put, List.setIfInBounds_toArray, List.set_cons_zero, List.set_cons_succ]))
              | (refine Lex.quiet (v := ?_) (by rfl) (by rfl) ?_ ?_; rotate_left; (focus (intro w' hS'; go_simp; try rfl)); (try simp only [Act.put, List.setIfInBounds_toArray, List.set_cons_zero, List.set_cons_succ])))
            refine Lex.loud (by rfl) (by rfl) ?_
            intro K' hK'
            go_simp
            refine (HK14.out.pure (fun O R z h => sdepth_ok _ h)).mono ?_
            rintro e w' ⟨rfl, rfl⟩
            rw [HQD.out]
            refine hK' _ _ (S14.out) ?_
            clear hK'
            try simp only [Act.put, List.setIfInBounds_toArray, List.set_cons_zero, List.set_cons_succ]
            repeat (first
              | (refine Lex.skips (by rfl) ?_; (try simp only [Act.put, List.setIfInBounds_toArray, List.set_cons_zero, List.set_cons_succ]))
              | (refine Lex.quiet (v := ?_) (by rfl) (by rfl) ?_ ?_; rotate_left; (focus (intro w' hS'; go_simp; try rfl)); (try simp only [Act.put, List.setIfInBounds_toArray, List.set_cons_zero, List.set_cons_succ])))
            refine Lex.loud (by rfl) (by rfl) ?_
            intro K' hK'
            go_simp
            refine (HK14.out.pure (fun O R z h => splace2_ok _ h)).mono ?_
            rintro e w' ⟨rfl, rfl⟩
            rw [HQP.out]
            refine hK' _ _ (S14.out) ?_
            clear hK'
            try simp only [Act.put, List.setIfInBounds_toArray, List.set_cons_zero, List.set_cons_succ]
            repeat (first
              | (refine Lex.skips (by rfl) ?_; (try simp only [Act.put, List.setIfInBounds_toArray, List.set_cons_zero, List.set_cons_succ]))
              | (refine Lex.quiet (v := ?_) (by rfl) (by rfl) ?_ ?_; rotate_left; (focus (intro w' hS'; go_simp; try rfl)); (try simp only [Act.put, List.setIfInBounds_toArray, List.set_cons_zero, List.set_cons_succ])))
            refine Lex.loud (by rfl) (by rfl) ?_
            intro K' hK'
            go_simp
            refine (HK14.out.soft (fun O R z h => shas_fr _ rn v h)).mono ?_
            rintro e w15 ⟨rfl, hk15⟩
            rw [pair_true HQG.out]
            have HK15 := Lib.hid hk15
            have S15 := Lib.hid (SB.out _ _ hk15)
            clear hk15
            refine hK' _ _ (S15.out) ?_
            clear hK'
            try simp only [Act.put, List.setIfInBounds_toArray, List.set_cons_zero, List.set_cons_succ]
            repeat (first
              | (refine Lex.skips (by rfl) ?_; (try simp only [Act.put, List.setIfInBounds_toArray, List.set_cons_zero, List.set_cons_succ]))
              | (refine Lex.quiet (v := ?_) (by rfl) (by rfl) ?_ ?_; rotate_left; (focus (intro w' hS'; go_simp; try rfl)); (try simp only [Act.put, List.setIfInBounds_toArray, List.set_cons_zero, List.set_cons_succ])))
            refine Lex.done ?_
            refine Lex.ends ?_
            obtain ⟨O2, R2, ⟨z2, hz2⟩, -⟩ := HK15.out.held
            have HBY2 := Lib.hid (bytes_ok w15 at_ k hz2.mem (by have := HN.out; have := HK.out; omega) (by have := HN.out; have := HK.out; omega) (by have := HQB.out; have := HN.out; omega) (by have := HQB.out; have := HK.out; simp only [inB, decide_eq_true_eq]; omega))
            have HZ2 := Lib.hid hz2
            clear hz2
            go_wp2_with fail
            refine (smemory_ok w15 HZ2.out).mono ?_
            rintro e w' ⟨rfl, rfl⟩
            go_wp2_with fail
            refine HBY2.out.mono ?_
            rintro e w16 ⟨xw2, rfl, hx2, r16⟩
            obtain ⟨na, nc, rfl⟩ := owns_shape hx2
            have HW2 : Hid (((q.b.drop at_).take k).length = k) := Lib.hid (by have := HQB.out; have := HK.out; simp; omega)
            obtain ⟨ws2, hws2⟩ : ∃ ws2 : List Nat, ws2 = (q.b.drop at_).take k := ⟨_, rfl⟩
            have HEQ : Hid (ss.length = 0 → ∀ j, j < k → (j < 8 * rn ∨ 8 * rn + 8 ≤ j) → ws[j]? = ws2[j]?) := Lib.hid (fun h j hj h2 => by
              rw [HWS.out, hws2, List.getElem?_take_of_lt hj, List.getElem?_take_of_lt hj, List.getElem?_drop, List.getElem?_drop]
              exact (HQY.out h (at_ + j) (by have := HSA.out; omega) (by have := HSA.out; omega)).symm)
            rw [← hws2] at hx2 HW2
            have HRW : Hid (Reads w16 (.slice wa k wc) 1 k (u8s ws)) := Lib.hid (by have := owns_reads (HK15.out.fr r16).row; rw [HW0.out] at this; exact this)
            have HRN2 : Hid (Reads w16 (.slice na k nc) 1 k (u8s ws2)) := Lib.hid (owns_reads hx2)
            have RF := Lib.hid (HK15.out.fr r16).held.frame
            have HBX16 := Lib.hid (HK15.out.fr r16).box
            have hk63 : k ≤ 65536 := by have := HK.out; have := HN.out; omega
            clear hx2 r16 hws2
            obtain ⟨q8, hq8⟩ : ∃ q8 : Nat, q8 = 8 * rn := ⟨_, rfl⟩
            obtain ⟨q9, hq9⟩ : ∃ q9 : Nat, q9 = q8 + 8 := ⟨_, rfl⟩
            have hw8 : IntKind.i64.wrap (8 * (rn : Int)) = (q8 : Int) := by have := HRN.out; rw [IntKind.wrap_i64]; omega
            have hw9 : IntKind.i64.wrap ((q8 : Int) + 8) = (q9 : Int) := by have := HRN.out; rw [IntKind.wrap_i64]; omega
            have HQ9 : Hid (q8 = 8 * rn ∧ q9 = q8 + 8) := Lib.hid ⟨hq8, hq9⟩
            clear hq8 hq9
            go_wp2_with fail
            go_loopw [25] (fun y wr => ∃ (j : Nat), j ≤ k ∧ y = .int .i64 j ∧ Hid (Fr no w16 wr)) (fun y _ => (k - intOf y).toNat)
            case atStart => exact ⟨0, by omega, by simp, Lib.hid (Fr.refl _ _)⟩
            case round =>
              obtain ⟨j, hj, rfl, hfr⟩ := hrel
              by_cases hs0 : ss.length = 0
              · have hse : ((ss.length : Int) == 0) = true := beq_iff_eq.2 (by omega)
                by_cases hjl : j < k
                · have hlt : (j : Int) < k := by omega
                  have hj1 : j < ws.length := by rw [HW0.out]; exact hjl
                  have hj2 : j < ws2.length := by rw [HW2.out]; exact hjl
                  obtain ⟨c1, o1, rfl, hc1⟩ := (HRW.out.fr hfr.out (by simp)).at1 (k := j) (u := .int .u8 (ws[j] : Nat)) (by simp [u8s, hj1])
                  obtain ⟨c2, o2, rfl, hc2⟩ := (HRN2.out.fr hfr.out (by simp)).at1 (k := j) (u := .int .u8 (ws2[j] : Nat)) (by simp [u8s, hj2])
                  have heq : (j < 8 * rn ∨ 8 * rn + 8 ≤ j) → ws[j] = ws2[j] := fun h => by
                    have := HEQ.out hs0 j hjl h
                    rw [List.getElem?_eq_getElem hj1, List.getElem?_eq_getElem hj2] at this
                    exact Option.some.inj this
                  generalize ws[j] = a1 at *
                  generalize ws2[j] = a2 at *
                  have SX : Hid ((fun w' : World => w'.cell? ⟨c1, o1 + j, none⟩ = some (.int .u8 a1) ∧ w'.cell? ⟨c2, o2 + j, none⟩ = some (.int .u8 a2) ∧ w'.cell? ⟨w.heap.size + 1, 1, none⟩ = some (.int .i64 rn)) wr.drew) := Lib.hid ⟨hc1, hc2, cell_of_heap (w := wr.drew) (hfr.out.heap HBX16.out (by simp)) rfl⟩
                  have HFD := Lib.hid (hfr.out.trans (Fr.refl no wr).drew)
                  have hlt1 : (j : Int) < k := hlt
                  clear hc1 hc2 hj1 hj2
                  by_cases hae : a1 = a2
                  · have hne : ((a1 : Int) != a2) = false := by rw [hae]; simp
                    clear heq hae
                    go_upto_region 28 with (fail)
                    refine Lex.region [] [24] (by kernel_rfl) (by kernel_rfl) ?_
                    refine Lex.opens (fun w' => w'.cell? ⟨c1, o1 + j, none⟩ = some (.int .u8 a1) ∧ w'.cell? ⟨c2, o2 + j, none⟩ = some (.int .u8 a2) ∧ w'.cell? ⟨w.heap.size + 1, 1, none⟩ = some (.int .i64 rn)) (SX.out) ?_
                    repeat (first
                      | (refine Lex.skips (by rfl) ?_; (try simp only [Act.put, List.setIfInBounds_toArray, List.set_cons_zero, List.set_cons_succ]))
                      | (refine Lex.quiet (v := ?_) (by rfl) (by rfl) ?_ ?_; rotate_left; (focus (intro w' hS'; go_simp; try rfl)); (try simp only [Act.put, List.setIfInBounds_toArray, List.set_cons_zero, List.set_cons_succ])))
                    refine Lex.done ?_
                    refine Lex.ends ?_
                    go_wp2_with fail
                    go_roundw
                    case rel => exact ⟨j + 1, by omega, by go_num, HFD⟩
                    case measure => first | (simp [intOf]; done) | (simp [intOf]; omega)
                  · have hne : ((a1 : Int) != a2) = true := bne_iff_ne.2 (by omega)
                    have hwin : ¬ (j < 8 * rn ∨ 8 * rn + 8 ≤ j) := fun h => hae (heq h)
                    have hn8 : ¬ (j : Int) < q8 := by have := HQ9.out; omega
                    have hn9 : ¬ (j : Int) ≥ q9 := by have := HQ9.out; omega
                    clear heq hae hwin
                    go_upto_region 28 with (fail)
                    refine Lex.region [] [24] (by kernel_rfl) (by kernel_rfl) ?_
                    refine Lex.opens (fun w' => w'.cell? ⟨c1, o1 + j, none⟩ = some (.int .u8 a1) ∧ w'.cell? ⟨c2, o2 + j, none⟩ = some (.int .u8 a2) ∧ w'.cell? ⟨w.heap.size + 1, 1, none⟩ = some (.int .i64 rn)) (SX.out) ?_
                    repeat (first
                      | (refine Lex.skips (by rfl) ?_; (try simp only [Act.put, List.setIfInBounds_toArray, List.set_cons_zero, List.set_cons_succ]))
                      | (refine Lex.quiet (v := ?_) (by rfl) (by rfl) ?_ ?_; rotate_left; (focus (intro w' hS'; go_simp; try rfl)); (try simp only [Act.put, List.setIfInBounds_toArray, List.set_cons_zero, List.set_cons_succ])))
                    refine Lex.done ?_
                    refine Lex.ends ?_
                    go_wp2_with fail
                    go_roundw
                    case rel => exact ⟨j + 1, by omega, by go_num, HFD⟩
                    case measure => first | (simp [intOf]; done) | (simp [intOf]; omega)
                · have hlt : ¬ (j : Int) < k := by omega
                  go_wp2_with fail
                  go_ret
                  exact ⟨rfl, RF.out.trans hfr.out⟩
              · have hse : ((ss.length : Int) == 0) = false := beq_eq_false_iff_ne.2 (by omega)
                go_wp2_with fail
                go_ret
                exact ⟨rfl, RF.out.trans hfr.out⟩
theorem back15_rd (w : World) (s0 : Array Value) {n0 : Nat} {d0 : Dt} (h0 : Rd Tryz.prog w n0 25 s0.toList d0) (mem : Int) (hwf : (Lit.int .i64 mem).wf = true) (lv : Value) {n2 : Nat} {d2 : Dt} (h2 : Rd Tryz.prog w n2 55 [lv] d2)
    (s3 : Array Value) {n3 : Nat} {d3 : Dt} (h3 : Rd Tryz.prog w n3 57 s3.toList d3) (sv : Value) (ss : List Int) (hs : Reads w sv 1 ss.length (ss.map (.int .u64)) ∧ (∀ z ∈ ss, (Lit.int .u64 z).wf = true) ∧ ss.length * Tryz.prog.bytesOf 34 ≤ reachBytes) (v : Nat) (hv : v < 18446744073709551616) :
    Calls Tryz.prog 5 #[.agg s0, .int .i64 mem, lv, .agg s3, sv, .int .u64 v] w fun e w' => e = .returned (.bool true) ∧ Fr no w w' := by
  have b3 : Tryz.prog.bytesOf 34 = 8 := by kernel_rfl
  have hR : reachBytes = 140737488351232 := rfl
  obtain ⟨m, da, dc, fa, fc, e0, hm, hr⟩ := mod_rd_of h0
  obtain rfl : s0 = #[.slice da m.d.length dc, .slice fa m.f.length fc] := Array.ext' e0
  obtain ⟨la, lc, l, rfl, hl, hll⟩ := acts_of h2
  obtain ⟨x, ua, uc, e3, hx, hf⟩ := act_of h3
  have : s3 = (x.cells (.slice ua x.l.length uc)).toArray := by rw [← e3]
  subst this
  obtain ⟨sa, sc, rfl⟩ := hs.1.shape
  have h4 := hs.2.2
  rw [b3, hR] at h4
  refine back15_ok w m da dc fa fc mem la lc l x ua uc sa sc ss v hm hr hwf hl hll hx hf hs.1 (fun z hz => ?_) (by unfold maxLen; omega) hv
  have q1 : IntKind.u64.min ≤ z ∧ z ≤ IntKind.u64.max := by simpa [Lit.wf] using hs.2.1 z hz
  have q2 : IntKind.u64.min = 0 := by decide
  have q3 : IntKind.u64.max = 18446744073709551615 := by decide
  omega

end Go.Proofs.YtihnkijeefkefaaGreat

namespace Go.Proofs.YtihnkijeefkefaaGreat.spaceBackP
open Go.ChangeShapes Go.WideShapes Go.ChangeAt Go.RowKit

theorem own : ownKnob Tryz.prog.godebug = none := by kernel_rfl
theorem laidOut : laidOutB Tryz.prog = true := by kernel_rfl

set_option linter.unusedVariables false
set_option maxRecDepth 100000 in
theorem lifted (os : Os) (started : os.Started) (H : Type) (enc : TypeId × Value → H) :
    ReturnsInHanded {} Tryz.checked os 5 .any (Rows.spaceBackSpec.pre6 enc Tryz.prog Tryz.f5 Rows.spaceBackRow.domain false) (Rows.spaceBackSpec.post enc Tryz.prog Tryz.f5 false true false false) := by
  refine returnsInHanded_of_change_sized (C := Tryz.checked) own started (by kernel_rfl) Tryz.func5
    (ChangeSpec.witness6 (enc := enc) (C := Tryz.checked) false ⟨#[], #[.agg #[.slice none 0 0, .slice none 0 0], .int .i64 0, .slice none 0 0, .agg #[.int .i64 0, .int .i64 0, .int .i64 0, .int .i64 0, .int .u64 0, .slice none 0 0, .int .i64 0, .int .i64 0], .slice none 0 0, .int .u64 0], []⟩ 8 (by kernel_rfl) (by kernel_rfl) (by kernel_rfl) (by kernel_rfl)) ?_
  intro W base args ds gs before hval0 hW hcnd hsz0 _
  have hval : ∀ (j : Nat) t v, Tryz.f5.params[j]? = some t → args[j]? = some v → Value.okWide Tryz.prog W .any base t v := hval0
  have hsz : (DataW.weightsEach Tryz.prog (Tryz.f5.params.toList ++ Rows.spaceBackSpec.plain.varTypes Tryz.prog) (ds ++ gs)).all (· ≤ reachBytes) = true := hsz0
  clear hsz0 hcnd
  have hW' := hW
  obtain ⟨p, q, hA0, hV, rfl, hfz, hnd⟩ := hW
  have hA : DataW.TrodAll enc Tryz.prog W 0 (fun _ => true) true Tryz.f5.params.toList args.toList ds p := hA0
  rw [Tryz.params5] at hA hval hsz
  obtain ⟨v0, vs0, d0, ds0, p0, q0, hargs, rfl, rfl, h0, r0⟩ := trodAll_cons hA
  obtain ⟨v1, vs1, d1, ds1, p1, q1, rfl, rfl, rfl, h1, r1⟩ := trodAll_cons r0
  obtain ⟨v2, vs2, d2, ds2, p2, q2, rfl, rfl, rfl, h2, r2⟩ := trodAll_cons r1
  obtain ⟨v3, vs3, d3, ds3, p3, q3, rfl, rfl, rfl, h3, r3⟩ := trodAll_cons r2
  obtain ⟨v4, vs4, d4, ds4, p4, q4, rfl, rfl, rfl, h4, r4⟩ := trodAll_cons r3
  obtain ⟨v5, vs5, d5, ds5, p5, q5, rfl, rfl, rfl, h5, r5⟩ := trodAll_cons r4
  obtain ⟨rfl, rfl, rfl⟩ := trodAll_nil r5
  obtain rfl : args = #[v0, v1, v2, v3, v4, v5] := by cases args; simp_all
  obtain ⟨rfl, rfl⟩ := trodVars_none hV
  clear hA0 hval0
  have k0 := h0
  have lt0 : ∀ x ∈ p0, x.block < W.heap.size := by obtain ⟨m, hm⟩ := k0; exact DataW.trod_lt m _ _ _ hm
  obtain ⟨s0, n0, c0, rfl, e0⟩ := arg_agg Tryz.underlying25 (hval 0 25 v0 rfl rfl) h0
  have k1 := h1
  have lt1 : ∀ x ∈ p1, x.block < W.heap.size := by obtain ⟨m, hm⟩ := k1; exact DataW.trod_lt m _ _ _ hm
  obtain ⟨n1, rfl, e1⟩ := arg_int Tryz.underlying3 (hval 1 3 v1 rfl rfl) h1
  have k2 := h2
  have lt2 : ∀ x ∈ p2, x.block < W.heap.size := by obtain ⟨m, hm⟩ := k2; exact DataW.trod_lt m _ _ _ hm
  obtain ⟨n2, c2, e2⟩ := arg_row Tryz.underlying55 (hval 2 55 v2 rfl rfl) h2
  have k3 := h3
  have lt3 : ∀ x ∈ p3, x.block < W.heap.size := by obtain ⟨m, hm⟩ := k3; exact DataW.trod_lt m _ _ _ hm
  obtain ⟨s3, n3, c3, rfl, e3⟩ := arg_agg Tryz.underlying57 (hval 3 57 v3 rfl rfl) h3
  have k4 := h4
  have lt4 : ∀ x ∈ p4, x.block < W.heap.size := by obtain ⟨m, hm⟩ := k4; exact DataW.trod_lt m _ _ _ hm
  obtain ⟨n4, e4⟩ := arg_ints Tryz.underlying58 Tryz.underlying34 (by kernel_rfl) (hval 4 58 v4 rfl rfl) h4 (fun x y hd => sized_slice hsz (j := 4) (t := 58) (e := 34) rfl (by rw [hd]; rfl) Tryz.underlying58)
  have k5 := h5
  have lt5 : ∀ x ∈ p5, x.block < W.heap.size := by obtain ⟨m, hm⟩ := k5; exact DataW.trod_lt m _ _ _ hm
  obtain ⟨n5, rfl, e5⟩ := arg_nat Tryz.underlying34 (hval 5 34 v5 rfl rfl) h5
  refine (back15_rd W s0 e0 n1 e1 v2 e2 s3 e3 v4 n4 e4 n5 e5).mono fun e W' ⟨he, fr⟩ => ?_
  subst he
  have bel := fr.below (Nat.le_refl _) (fun k hk => hk.elim)
  exact ⟨_, rfl, _, _, _, [], _, [], hW', trodAll_mk1 (shut_bool Tryz.underlying4 _), (trodAll_cons_mk (Below.trod laidOut (by kernel_rfl) (of_decide_eq_true (by kernel_rfl)) k0 bel lt0) (trodAll_cons_mk (Below.trod laidOut (by kernel_rfl) (of_decide_eq_true (by kernel_rfl)) k1 bel lt1) (trodAll_cons_mk (Below.trod laidOut (by kernel_rfl) (of_decide_eq_true (by kernel_rfl)) k2 bel lt2) (trodAll_cons_mk (Below.trod laidOut (by kernel_rfl) (of_decide_eq_true (by kernel_rfl)) k3 bel lt3) (trodAll_cons_mk (Below.trod laidOut (by kernel_rfl) (of_decide_eq_true (by kernel_rfl)) k4 bel lt4) (trodAll_cons_mk (Below.trod laidOut (by kernel_rfl) (of_decide_eq_true (by kernel_rfl)) k5 bel lt5) trodAll_mk0)))))), rfl, bel.frame _, fun h => by cases h⟩

theorem proved : Rows.SpaceBackSaid :=
  OpenClaim.holds_of_wide 5 Tryz.f5 rfl rfl rfl rfl rfl rfl rfl ⟨rfl, rfl, rfl, rfl, rfl⟩ rfl rfl rfl rfl rfl (by kernel_rfl) Tryz.func5 (by kernel_rfl)
    (of_decide_eq_true (by kernel_rfl)) (by unfold Func.isWrapper; rw [if_neg (of_decide_eq_false (by kernel_rfl))]; exact ⟨rfl, rfl⟩)
    (fun os started H enc _ => lifted os started H enc)
#print axioms proved
end Go.Proofs.YtihnkijeefkefaaGreat.spaceBackP

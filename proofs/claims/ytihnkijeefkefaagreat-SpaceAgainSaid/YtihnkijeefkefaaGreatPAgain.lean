/- SpaceAgain: whatever the input, the law's function returns true and leaves what it was handed as it was. No condition of our own. -/
import Derived.Test.YtihnkijeefkefaaGreatLA
import Derived.Test.YtihnkijeefkefaaGreatQ26
import Derived.Test.YtihnkijeefkefaaGreatQ19
import Derived.Test.YtihnkijeefkefaaGreatQ17L
import Derived.ChangeKeysEq
import Derived.ProofKit
import Derived.SizedLaws
import Derived.OpenShut
set_option linter.unusedSimpArgs false
set_option linter.unusedVariables false
set_option linter.unusedSectionVars false
set_option linter.unnecessarySimpa false
set_option maxRecDepth 100000
/- Rows of numbers as they are handed in. -/
namespace Go.RowKit
open Go.ChangeShapes Go.WideShapes Go.ChangeAt Go.Deep
section
variable {H : Type} {enc : TypeId × Value → H} {P : Program} {W : World} {base : Nat} {t e : TypeId} {v : Value} {d : DataW H} {p : List MemPlace}

theorem arg_ints {k : IntKind} {by_ : Nat} (ht : P.underlying t = some (.slice e)) (he : P.underlying e = some (.int k)) (hc : P.cellsOf e = 1)
    (hk : Value.okWide P W .any base t v) (h : DataW.Trod enc P W 0 (fun _ => true) true t v d p)
    (hs : ∀ x y, d = .slice x y → (x.length + y.length) * by_ ≤ reachBytes) :
    ∃ zs : List Int, Reads W v 1 zs.length (zs.map (.int k)) ∧ (∀ z ∈ zs, (Lit.int k z).wf = true) ∧ zs.length * by_ ≤ reachBytes := by
  obtain ⟨a, len, cap, rfl⟩ := okWide_slice ht hk
  obtain ⟨fuel, hf⟩ := h
  rcases open_ints ht he hc hf with ⟨hcs, _⟩ | ⟨x, l, c, zs, hcs, _, hl, hm, hz, hx, hcell, hwz⟩
  · simp [Value.cells] at hcs
    obtain ⟨rfl, rfl, rfl⟩ := hcs
    exact ⟨[], .inl ⟨rfl, rfl, rfl⟩, by simp, by simp⟩
  · simp [Value.cells] at hcs
    obtain ⟨rfl, rfl, rfl⟩ := hcs
    simp only [if_true] at hz
    have e1 : (zs.take len).length = len := by rw [List.length_take]; omega
    refine ⟨zs.take len, ?_, fun z hz' => hwz z (List.mem_of_mem_take hz'), ?_⟩
    · rw [e1]
      refine .inr ⟨x, cap, rfl, hl, hm, by simp; omega, fun j u hu => ?_⟩
      have hj : j < len := by
        rcases Nat.lt_or_ge j len with h | h
        · exact h
        · rw [List.getElem?_eq_none (by simp; omega)] at hu; cases hu
      rw [hcell j (by omega)]
      rw [List.getElem?_map, List.getElem?_take, if_pos hj, List.getElem?_eq_getElem (by omega)] at hu
      simp only [Option.map_some, Option.some.injEq] at hu
      rw [← hu, List.getD_eq_getElem?_getD, List.getElem?_eq_getElem (by omega)]; rfl
    · have hd := congrArg Prod.fst hx
      have := hs _ _ hd
      refine Nat.le_trans (Nat.mul_le_mul_right _ ?_) this
      simp [lits]
end

end Go.RowKit

set_option linter.unusedSimpArgs false
set_option linter.unusedVariables false
set_option linter.unusedSectionVars false
set_option linter.unnecessarySimpa false
set_option maxRecDepth 100000
/- A space that nobody made answers ErrNil. -/
namespace Go.Proofs.YtihnkijeefkefaaGreat
open Go.RowKit

attribute [local go_sem] Program.isFuncB Program.isSliceB

variable {w w' w'' w0 : World} {v : Value}

def zeroSp : Array Value := #[.int .u32 0, .int .i32 0, .int .u32 0, .int .i64 0, .slice none 0 0, .slice none 0 0, .slice none 0 0, .int .i64 0, .pointer none, .pointer none, .int .i64 0, .int .u64 0, .int .u64 0, .int .i64 0, .int .i64 0, .slice none 0 0, .int .i64 0, .int .i64 0]
def NoSp (w : World) (v : Value) : Prop := v = .pointer none ∨ ∃ b, v = .pointer (some ⟨b, 0, none⟩) ∧ w.heap[b]? = some (.cells zeroSp 94 (0, 0))
theorem NoSp.fr (h : NoSp w v) (r : Fr no w w') : NoSp w' v := by
  rcases h with rfl | ⟨b, rfl, h⟩
  · exact .inl rfl
  · exact .inr ⟨b, rfl, r.heap h (by simp)⟩
end Go.Proofs.YtihnkijeefkefaaGreat

set_option linter.unusedSimpArgs false
set_option linter.unusedVariables false
set_option linter.unusedSectionVars false
set_option linter.unnecessarySimpa false
set_option maxRecDepth 100000
/- Calls as they are handed in. -/
namespace Go.Proofs.YtihnkijeefkefaaGreat
open Go.RowKit

attribute [local go_sem] Program.isFuncB Program.isSliceB

variable {w w' w'' w0 : World}

structure Ax where
  k : Int
  r : Int
  n : Int
  b : Int
  v : Nat
  l : List Int
  ek : Int
  ec : Int
def Ax.cells (x : Ax) (u : Value) : List Value := [.int .i64 x.k, .int .i64 x.r, .int .i64 x.n, .int .i64 x.b, .int .u64 x.v, u, .int .i64 x.ek, .int .i64 x.ec]
/-- a call's numbers, as they may be -/
structure Ax.Fine (x : Ax) : Prop where
  n0 : -9223372036854775808 ≤ x.n
  n1 : x.n < 9223372036854775808
  v1 : x.v < 18446744073709551616
  l1 : x.l.length ≤ maxLen
theorem len_eight : ∀ (es : List Value), es.length = 8 → ∃ a b c d e f g h, es = [a, b, c, d, e, f, g, h]
  | [a, b, c, d, e, f, g, h], _ => ⟨a, b, c, d, e, f, g, h, rfl⟩
theorem act_of {n : Nat} {cs : List Value} {d : Dt} (h : Rd Tryz.prog w n 57 cs d) : ∃ (x : Ax) (ua : Option Addr) (uc : Nat), cs = x.cells (.slice ua x.l.length uc) ∧ Reads w (.slice ua x.l.length uc) 1 x.l.length (ints x.l) ∧ x.Fine := by
  obtain ⟨fl, -, hlen, -, hf⟩ := h.fields (z := 8) Tryz.underlying57 (by kernel_rfl)
  obtain ⟨a0, a1, a2, a3, a4, a5, a6, a7, rfl⟩ := len_eight cs hlen
  obtain ⟨_, -, r0⟩ := hf 0 3 0 1 rfl (by kernel_rfl)
  obtain ⟨_, -, r1⟩ := hf 1 3 1 1 rfl (by kernel_rfl)
  obtain ⟨_, -, r2⟩ := hf 2 3 2 1 rfl (by kernel_rfl)
  obtain ⟨_, -, r3⟩ := hf 3 3 3 1 rfl (by kernel_rfl)
  obtain ⟨_, -, r4⟩ := hf 4 34 4 1 rfl (by kernel_rfl)
  obtain ⟨_, -, r5⟩ := hf 5 26 5 1 rfl (by kernel_rfl)
  obtain ⟨_, -, r6⟩ := hf 6 43 6 2 rfl (by kernel_rfl)
  obtain ⟨k, e0, -, -⟩ := r0.int Tryz.underlying3
  obtain ⟨r, e1, -, -⟩ := r1.int Tryz.underlying3
  obtain ⟨nn, e2, -, w2⟩ := r2.int Tryz.underlying3
  obtain ⟨b, e3, -, -⟩ := r3.int Tryz.underlying3
  obtain ⟨v, e4, -, w4⟩ := r4.int Tryz.underlying34
  obtain ⟨l, -, hr, hz, hm⟩ := Rd.reads (v := a5) Tryz.underlying26 Tryz.underlying3 (by kernel_rfl) r5
  obtain ⟨fl2, -, hlen2, -, hf2⟩ := r6.fields (z := 2) Tryz.underlying43 (by kernel_rfl)
  obtain ⟨_, -, q0⟩ := hf2 0 3 0 1 rfl (by kernel_rfl)
  obtain ⟨_, -, q1⟩ := hf2 1 3 1 1 rfl (by kernel_rfl)
  obtain ⟨ek, e6, -, -⟩ := q0.int Tryz.underlying3
  obtain ⟨ec, e7, -, -⟩ := q1.int Tryz.underlying3
  simp at e0 e1 e2 e3 e4 e6 e7
  subst e0 e1 e2 e3 e4 e6 e7
  have h8 : IntKind.i64.min ≤ nn ∧ nn ≤ IntKind.i64.max := by simpa [Lit.wf] using w2
  have h9 : IntKind.i64.min = -9223372036854775808 := by decide
  have h10 : IntKind.i64.max = 9223372036854775807 := by decide
  have h11 : IntKind.u64.min ≤ v ∧ v ≤ IntKind.u64.max := by simpa [Lit.wf] using w4
  have h12 : IntKind.u64.min = 0 := by decide
  have h13 : IntKind.u64.max = 18446744073709551615 := by decide
  obtain ⟨ua, uc, rfl⟩ := hr.shape
  obtain ⟨vn, rfl⟩ : ∃ vn : Nat, v = vn := ⟨v.toNat, by omega⟩
  exact ⟨⟨k, r, nn, b, vn, l, ek, ec⟩, ua, uc, rfl, by simpa [ints] using hr, ⟨by dsimp only; omega, by dsimp only; omega, by dsimp only; omega, hm⟩⟩

/-- a row of calls: where each lies -/
def ActsIn (w : World) (sa : Option Addr) (l : List Ax) : Prop := ∀ k (h : k < l.length), ∃ b o ua uc, sa = some ⟨b, o, none⟩ ∧ At w b (o + k * 8) (l[k].cells (.slice ua l[k].l.length uc)) ∧ Reads w (.slice ua l[k].l.length uc) 1 l[k].l.length (ints l[k].l) ∧ l[k].Fine
theorem ActsIn.fr {sa : Option Addr} {l : List Ax} (h : ActsIn w sa l) (r : Fr no w w') : ActsIn w' sa l := fun k hk => by
  obtain ⟨b, o, ua, uc, e, h1, h2, h3⟩ := h k hk
  exact ⟨b, o, ua, uc, e, h1.fr r, h2.fr r (by simp), h3⟩
theorem acts_of {n : Nat} {v : Value} {d : Dt} (h : Rd Tryz.prog w n 55 [v] d) : ∃ (sa : Option Addr) (c : Nat) (l : List Ax), v = .slice sa l.length c ∧ ActsIn w sa l ∧ l.length ≤ maxLen := by
  obtain ⟨l, sa, cap, -, hcs, h1, h2, h3, h4⟩ := h.rows (z := 8) Tryz.underlying55 (by kernel_rfl) (by decide)
  obtain rfl : v = .slice sa l.length cap := by simpa using hcs
  have hd : ∀ i, i < l.length → ∃ x : Ax, ∃ b o ua uc, sa = some ⟨b, o, none⟩ ∧ At w b (o + i * 8) (x.cells (.slice ua x.l.length uc)) ∧ Reads w (.slice ua x.l.length uc) 1 x.l.length (ints x.l) ∧ x.Fine := by
    intro i hi
    obtain ⟨b, o, es, rfl, h5, h6, h7⟩ := h4 i hi
    obtain ⟨x, ua, uc, rfl, q1, q2⟩ := act_of h7
    exact ⟨x, b, o, ua, uc, rfl, fun j v hj => h6 j v hj, q1, q2⟩
  obtain ⟨xs, hl, hp⟩ := list_of_each hd
  exact ⟨sa, cap, xs, by rw [hl], fun k hk => hp k hk, by omega⟩

/-- are calls more than are gone through? -/
def longA (l : List Ax) : Bool := l.any (fun x => decide (20 < x.l.length)) || decide (50 < l.length)
theorem longA_false {l : List Ax} (h : longA l = false) : l.length ≤ 50 ∧ ∀ x ∈ l, x.l.length ≤ 20 := by
  simp only [longA, Bool.or_eq_false_iff, decide_eq_false_iff_not] at h
  refine ⟨by omega, fun x hx => ?_⟩
  have := List.any_eq_false.1 h.1 x hx
  simp at this
  exact this
theorem long15_ok (w : World) (sa : Option Addr) (c : Nat) (l : List Ax) (h : ActsIn w sa l) (hl : l.length ≤ maxLen) : Calls Tryz.prog 26 #[.slice sa l.length c] w fun e w' => e = .returned (.bool (longA l)) ∧ Fr no w w' := by
  have HA := Lib.hid h
  unfold maxLen at hl
  clear h
  go_enter Tryz.func26, Tryz.ntmps26
  go_wp2_with fail
  go_loopw [3] (fun y wr => ∃ j : Nat, j ≤ l.length ∧ y = .int .i64 j ∧ Hid ((l.take j).any (fun x => decide (20 < x.l.length)) = false) ∧ Hid (Fr no w wr)) (fun y _ => (l.length - intOf y).toNat)
  case atStart => exact ⟨0, by omega, by simp, Lib.hid (by simp), Lib.hid (Fr.refl _ _)⟩
  case round =>
    obtain ⟨j, hj, rfl, hn, hfr⟩ := hrel
    by_cases hjl : j < l.length
    · have hlt : (j : Int) < l.length := by omega
      obtain ⟨b, o, ua, uc, rfl, hat, -, -⟩ := (HA.out.fr hfr.out) j hjl
      have c5 : wr.cell? ⟨b, o + j * 8 + 5, none⟩ = some (.slice ua l[j].l.length uc) := hat 5 _ rfl
      have HN : Hid (l[j].l.length ≤ 20 → (l.take (j + 1)).any (fun x => decide (20 < x.l.length)) = false) := Lib.hid (fun h => by rw [List.take_succ_eq_append_getElem hjl, List.any_append, hn.out]; simp; omega)
      have HY : Hid (20 < l[j].l.length → longA l = true) := Lib.hid (fun h => by
        unfold longA
        rw [Bool.or_eq_true]
        left
        rw [List.any_eq_true]
        exact ⟨l[j], List.getElem_mem hjl, decide_eq_true h⟩)
      clear hat
      generalize l[j].l.length = q at *
      by_cases hq : 20 < q
      · have hq' : (q : Int) > 20 := by omega
        go_wp2_with fail
        go_ret
        exact ⟨by rw [HY.out hq]; rfl, hfr.out⟩
      · have hq' : ¬ (q : Int) > 20 := by omega
        have HN2 := Lib.hid (HN.out (by omega))
        go_wp2_with fail
        go_roundw
        case rel => exact ⟨j + 1, by omega, by go_num, HN2, hfr⟩
        case measure => first | (simp [intOf]; done) | (simp [intOf]; omega)
    · obtain rfl : j = l.length := by omega
      have HL : Hid (longA l = decide ((l.length : Int) > 50)) := Lib.hid (by
        have := hn.out
        rw [List.take_length] at this
        unfold longA
        rw [this, Bool.false_or, decide_eq_decide]
        omega)
      clear hn
      go_wp2_with fail
      go_ret
      exact ⟨by rw [HL.out]; rfl, hfr.out⟩

end Go.Proofs.YtihnkijeefkefaaGreat

set_option linter.unusedSimpArgs false
set_option linter.unusedVariables false
set_option linter.unusedSectionVars false
set_option linter.unnecessarySimpa false
set_option maxRecDepth 100000
/- SpaceNone. -/
namespace Go.Proofs.YtihnkijeefkefaaGreat
open Go.RowKit

attribute [local go_sem] Program.isFuncB Program.isSliceB

variable {w w' w'' w0 : World}

theorem Tryz.infoAct : (Tryz.prog.info? 57).map (·.size) = some 8 := by kernel_rfl
end Go.Proofs.YtihnkijeefkefaaGreat

set_option linter.unusedSimpArgs false
set_option linter.unusedVariables false
set_option linter.unusedSectionVars false
set_option linter.unnecessarySimpa false
set_option maxRecDepth 100000
/- A call of a space, as the law makes it. -/
namespace Go.Proofs.YtihnkijeefkefaaGreat
open Go.RowKit

attribute [local go_sem] Program.isFuncB Program.isSliceB

variable {w w' w'' w0 : World} {O R : Nat → Prop} {p : Nat} {s s' : Zp} {z : Pz}

def u64of (n : Int) : Nat := (n % 18446744073709551616).toNat
def Zp.actS (s : Zp) (x : Ax) : Zp :=
  if x.k = 0 then s else if x.k = 1 then (s.setS x.r x.v).1 else if x.k = 2 then (s.goS x.n).1 else if x.k = 3 then (s.burnS x.n).1
  else if x.k = 4 ∨ x.k = 5 then (s.callS x.n x.l x.r x.b).1 else if x.k = 6 then (s.retS x.v).1 else if x.k = 7 then (s.stopS (x.ek, x.ec)).1
  else if x.k = 8 then (s.getbS).1 else if x.k = 9 then (s.putbS x.n).1 else if x.k = 10 then (s.stoS x.v (u64of x.n)).1 else s
theorem Zp.Ok.actS (h : s.Ok) (x : Ax) : (s.actS x).Ok := by
  unfold Zp.actS
  split
  · exact h
  split
  · exact h.setS _ _
  split
  · exact h.goS _
  split
  · exact h.burnS _
  split
  · exact h.callS _ _ _ _
  split
  · exact h.retS _
  split
  · exact h.stopS _
  split
  · exact h.getbS
  split
  · exact h.putbS _
  split
  · exact h.stoS _ _
  · exact h
theorem u64of_lt (n : Int) : u64of n < 18446744073709551616 := by unfold u64of; omega
theorem u64of_wrap (n : Int) : IntKind.u64.wrap n = (u64of n : Nat) := by rw [IntKind.wrap_u64]; unfold u64of; omega
/-- a number is stored in the space's memory -/
theorem sto_ok (w : World) (a v : Nat) (ha : a < 18446744073709551616) (hv : v < 18446744073709551616) (h : SpAt w O R p s z) :
    Calls Tryz.prog 33 #[.pointer (some ⟨z.q, 0, none⟩), .int .u64 a, .int .i64 8, .int .u64 v] w fun e w' => e = .returned (.int .i64 (s.stoS a v).2) ∧ SpAt w' O R p (s.stoS a v).1 z ∧ Fr O w w' := by
  have hok := h.ok.stoS a v
  unfold Zp.stoS at hok ⊢
  cases hi : inB s.b.length a 8
  · simp only [Bool.false_eq_true, if_false]
    refine (store_out w a v 8 rfl h.mem ha h.ok.bl hi).mono ?_
    rintro e w' ⟨rfl, r⟩
    refine ⟨rfl, ?_⟩
    exact ⟨h.fr r, r.to⟩
  · rw [hi, if_pos rfl] at hok
    simp only [if_true]
    refine (store_in w a v 8 rfl h.mem ha h.ok.bl hv hi).mono ?_
    rintro e w' ⟨rfl, hm, r⟩
    exact ⟨rfl, h.turnB r hm hok, r.mono (fun k hk _ => by simp at hk; subst hk; exact h.og)⟩
theorem cells8 {b : Nat} {a0 a1 a2 a3 a4 a5 a6 a7 : Value} {t : TypeId} (h : w.heap[b]? = some (.cells #[a0, a1, a2, a3, a4, a5, a6, a7] t (0, 0))) :
    w.cell? ⟨b, 0, none⟩ = some a0 ∧ w.cell? ⟨b, 1, none⟩ = some a1 ∧ w.cell? ⟨b, 2, none⟩ = some a2 ∧ w.cell? ⟨b, 3, none⟩ = some a3 ∧ w.cell? ⟨b, 4, none⟩ = some a4 ∧ w.cell? ⟨b, 5, none⟩ = some a5 ∧ w.cell? ⟨b, 6, none⟩ = some a6 ∧ w.cell? ⟨b, 7, none⟩ = some a7 :=
  ⟨cell_of_heap h rfl, cell_of_heap h rfl, cell_of_heap h rfl, cell_of_heap h rfl, cell_of_heap h rfl, cell_of_heap h rfl, cell_of_heap h rfl, cell_of_heap h rfl⟩
set_option maxHeartbeats 2000000 in
theorem act_0 (w : World) (x : Ax) (ua : Option Addr) (uc : Nat) (hk : x.k = 0) (hr : Reads w (.slice ua x.l.length uc) 1 x.l.length (ints x.l)) (hf : x.Fine) (hd : s.ds.length < 100000) (h : SpAt w O R p s z) :
    Calls Tryz.prog 27 #[.pointer (some ⟨p, 0, none⟩), .agg #[.int .i64 x.k, .int .i64 x.r, .int .i64 x.n, .int .i64 x.b, .int .u64 x.v, .slice ua x.l.length uc, .int .i64 x.ek, .int .i64 x.ec]] w fun e w' => e = .returned (.tuple #[]) ∧ SpTo w w' O R p s := by
  have r1 := (Fr.refl no w).alloc (.cells #[.int .i64 x.k, .int .i64 x.r, .int .i64 x.n, .int .i64 x.b, .int .u64 x.v, .slice ua x.l.length uc, .int .i64 x.ek, .int .i64 x.ec] 57)
  have hb1 := heap_new w (.cells #[.int .i64 x.k, .int .i64 x.r, .int .i64 x.n, .int .i64 x.b, .int .u64 x.v, .slice ua x.l.length uc, .int .i64 x.ek, .int .i64 x.ec] 57)
  have HB := Lib.hid hb1
  have R1 := Lib.hid r1
  have H := Lib.hid (h.fr r1)
  have HL := Lib.hid (hr.fr r1 (by simp))
  have HW : Hid (w.heap.size ≠ p ∧ ¬ O w.heap.size) := Lib.hid ⟨fun e => by have := h.lt p (.inl h.op); omega, fun e => by have := h.lt _ (.inl e); omega⟩
  obtain ⟨b0, b1, b2, b3, b4, b5, b6, b7⟩ := cells8 hb1
  have HF := Lib.hid hf
  have HD := Lib.hid hd
  obtain ⟨xk, xr, xn, xb, xv, xl, xek, xec⟩ := x
  dsimp only at *
  subst hk
  clear hb1 r1 h hr hf hd
  go_enter Tryz.func27, Tryz.ntmps27
  go_wp2_with fail
  refine (sget_ok _ xr H.out).mono ?_
  rintro e w2 ⟨rfl, r⟩
  have HT := Lib.hid ((H.out.fr r).to (R1.out.trans r).to)
  clear r

  go_wp2_with fail
  go_end0
  exact ⟨rfl, HT.out⟩
set_option maxHeartbeats 2000000 in
theorem act_1 (w : World) (x : Ax) (ua : Option Addr) (uc : Nat) (hk : x.k = 1) (hr : Reads w (.slice ua x.l.length uc) 1 x.l.length (ints x.l)) (hf : x.Fine) (hd : s.ds.length < 100000) (h : SpAt w O R p s z) :
    Calls Tryz.prog 27 #[.pointer (some ⟨p, 0, none⟩), .agg #[.int .i64 x.k, .int .i64 x.r, .int .i64 x.n, .int .i64 x.b, .int .u64 x.v, .slice ua x.l.length uc, .int .i64 x.ek, .int .i64 x.ec]] w fun e w' => e = .returned (.tuple #[]) ∧ SpTo w w' O R p (s.setS x.r x.v).1 := by
  have r1 := (Fr.refl no w).alloc (.cells #[.int .i64 x.k, .int .i64 x.r, .int .i64 x.n, .int .i64 x.b, .int .u64 x.v, .slice ua x.l.length uc, .int .i64 x.ek, .int .i64 x.ec] 57)
  have hb1 := heap_new w (.cells #[.int .i64 x.k, .int .i64 x.r, .int .i64 x.n, .int .i64 x.b, .int .u64 x.v, .slice ua x.l.length uc, .int .i64 x.ek, .int .i64 x.ec] 57)
  have HB := Lib.hid hb1
  have R1 := Lib.hid r1
  have H := Lib.hid (h.fr r1)
  have HL := Lib.hid (hr.fr r1 (by simp))
  have HW : Hid (w.heap.size ≠ p ∧ ¬ O w.heap.size) := Lib.hid ⟨fun e => by have := h.lt p (.inl h.op); omega, fun e => by have := h.lt _ (.inl e); omega⟩
  obtain ⟨b0, b1, b2, b3, b4, b5, b6, b7⟩ := cells8 hb1
  have HF := Lib.hid hf
  have HD := Lib.hid hd
  obtain ⟨xk, xr, xn, xb, xv, xl, xek, xec⟩ := x
  dsimp only at *
  subst hk
  clear hb1 r1 h hr hf hd
  go_enter Tryz.func27, Tryz.ntmps27
  go_wp2_with fail
  refine (sset_ok _ xr xv HF.out.v1 H.out).mono ?_
  rintro e w2 ⟨rfl, h', r⟩
  have HT := Lib.hid (h'.to (R1.out.to.trans r))
  clear h' r

  go_wp2_with fail
  go_end0
  exact ⟨rfl, HT.out⟩
set_option maxHeartbeats 2000000 in
theorem act_2 (w : World) (x : Ax) (ua : Option Addr) (uc : Nat) (hk : x.k = 2) (hr : Reads w (.slice ua x.l.length uc) 1 x.l.length (ints x.l)) (hf : x.Fine) (hd : s.ds.length < 100000) (h : SpAt w O R p s z) :
    Calls Tryz.prog 27 #[.pointer (some ⟨p, 0, none⟩), .agg #[.int .i64 x.k, .int .i64 x.r, .int .i64 x.n, .int .i64 x.b, .int .u64 x.v, .slice ua x.l.length uc, .int .i64 x.ek, .int .i64 x.ec]] w fun e w' => e = .returned (.tuple #[]) ∧ SpTo w w' O R p (s.goS x.n).1 := by
  have r1 := (Fr.refl no w).alloc (.cells #[.int .i64 x.k, .int .i64 x.r, .int .i64 x.n, .int .i64 x.b, .int .u64 x.v, .slice ua x.l.length uc, .int .i64 x.ek, .int .i64 x.ec] 57)
  have hb1 := heap_new w (.cells #[.int .i64 x.k, .int .i64 x.r, .int .i64 x.n, .int .i64 x.b, .int .u64 x.v, .slice ua x.l.length uc, .int .i64 x.ek, .int .i64 x.ec] 57)
  have HB := Lib.hid hb1
  have R1 := Lib.hid r1
  have H := Lib.hid (h.fr r1)
  have HL := Lib.hid (hr.fr r1 (by simp))
  have HW : Hid (w.heap.size ≠ p ∧ ¬ O w.heap.size) := Lib.hid ⟨fun e => by have := h.lt p (.inl h.op); omega, fun e => by have := h.lt _ (.inl e); omega⟩
  obtain ⟨b0, b1, b2, b3, b4, b5, b6, b7⟩ := cells8 hb1
  have HF := Lib.hid hf
  have HD := Lib.hid hd
  obtain ⟨xk, xr, xn, xb, xv, xl, xek, xec⟩ := x
  dsimp only at *
  subst hk
  clear hb1 r1 h hr hf hd
  go_enter Tryz.func27, Tryz.ntmps27
  go_wp2_with fail
  refine (sgo_ok _ xn H.out).mono ?_
  rintro e w2 ⟨rfl, k⟩
  have HT := Lib.hid (k.pre R1.out)
  clear k

  go_wp2_with fail
  go_end0
  exact ⟨rfl, HT.out⟩
set_option maxHeartbeats 2000000 in
theorem act_3 (w : World) (x : Ax) (ua : Option Addr) (uc : Nat) (hk : x.k = 3) (hr : Reads w (.slice ua x.l.length uc) 1 x.l.length (ints x.l)) (hf : x.Fine) (hd : s.ds.length < 100000) (h : SpAt w O R p s z) :
    Calls Tryz.prog 27 #[.pointer (some ⟨p, 0, none⟩), .agg #[.int .i64 x.k, .int .i64 x.r, .int .i64 x.n, .int .i64 x.b, .int .u64 x.v, .slice ua x.l.length uc, .int .i64 x.ek, .int .i64 x.ec]] w fun e w' => e = .returned (.tuple #[]) ∧ SpTo w w' O R p (s.burnS x.n).1 := by
  have r1 := (Fr.refl no w).alloc (.cells #[.int .i64 x.k, .int .i64 x.r, .int .i64 x.n, .int .i64 x.b, .int .u64 x.v, .slice ua x.l.length uc, .int .i64 x.ek, .int .i64 x.ec] 57)
  have hb1 := heap_new w (.cells #[.int .i64 x.k, .int .i64 x.r, .int .i64 x.n, .int .i64 x.b, .int .u64 x.v, .slice ua x.l.length uc, .int .i64 x.ek, .int .i64 x.ec] 57)
  have HB := Lib.hid hb1
  have R1 := Lib.hid r1
  have H := Lib.hid (h.fr r1)
  have HL := Lib.hid (hr.fr r1 (by simp))
  have HW : Hid (w.heap.size ≠ p ∧ ¬ O w.heap.size) := Lib.hid ⟨fun e => by have := h.lt p (.inl h.op); omega, fun e => by have := h.lt _ (.inl e); omega⟩
  obtain ⟨b0, b1, b2, b3, b4, b5, b6, b7⟩ := cells8 hb1
  have HF := Lib.hid hf
  have HD := Lib.hid hd
  obtain ⟨xk, xr, xn, xb, xv, xl, xek, xec⟩ := x
  dsimp only at *
  subst hk
  clear hb1 r1 h hr hf hd
  go_enter Tryz.func27, Tryz.ntmps27
  go_wp2_with fail
  refine (sburn_ok _ xn HF.out.n0 H.out).mono ?_
  rintro e w2 ⟨rfl, k⟩
  have HT := Lib.hid (k.pre R1.out)
  clear k

  go_wp2_with fail
  go_end0
  exact ⟨rfl, HT.out⟩
set_option maxHeartbeats 2000000 in
theorem act_4 (w : World) (x : Ax) (ua : Option Addr) (uc : Nat) (hk : x.k = 4) (hr : Reads w (.slice ua x.l.length uc) 1 x.l.length (ints x.l)) (hf : x.Fine) (hd : s.ds.length < 100000) (hll : x.l.length ≤ 1000000) (h : SpAt w O R p s z) :
    Calls Tryz.prog 27 #[.pointer (some ⟨p, 0, none⟩), .agg #[.int .i64 x.k, .int .i64 x.r, .int .i64 x.n, .int .i64 x.b, .int .u64 x.v, .slice ua x.l.length uc, .int .i64 x.ek, .int .i64 x.ec]] w fun e w' => e = .returned (.tuple #[]) ∧ SpTo w w' O R p (s.callS x.n x.l x.r x.b).1 := by
  have r1 := (Fr.refl no w).alloc (.cells #[.int .i64 x.k, .int .i64 x.r, .int .i64 x.n, .int .i64 x.b, .int .u64 x.v, .slice ua x.l.length uc, .int .i64 x.ek, .int .i64 x.ec] 57)
  have hb1 := heap_new w (.cells #[.int .i64 x.k, .int .i64 x.r, .int .i64 x.n, .int .i64 x.b, .int .u64 x.v, .slice ua x.l.length uc, .int .i64 x.ek, .int .i64 x.ec] 57)
  have HB := Lib.hid hb1
  have R1 := Lib.hid r1
  have H := Lib.hid (h.fr r1)
  have HL := Lib.hid (hr.fr r1 (by simp))
  have HW : Hid (w.heap.size ≠ p ∧ ¬ O w.heap.size) := Lib.hid ⟨fun e => by have := h.lt p (.inl h.op); omega, fun e => by have := h.lt _ (.inl e); omega⟩
  obtain ⟨b0, b1, b2, b3, b4, b5, b6, b7⟩ := cells8 hb1
  have HLL : Hid (x.l.length ≤ 1000000) := Lib.hid hll
  have HF := Lib.hid hf
  have HD := Lib.hid hd
  obtain ⟨xk, xr, xn, xb, xv, xl, xek, xec⟩ := x
  dsimp only at *
  subst hk
  clear hll hb1 r1 h hr hf hd
  go_enter Tryz.func27, Tryz.ntmps27
  go_wp2_with fail
  refine (scall_ok _ H.out HLL.out HL.out).mono ?_
  rintro e w2 ⟨rfl, k⟩
  have HT := Lib.hid (k.pre R1.out)
  clear k

  go_wp2_with fail
  go_end0
  exact ⟨rfl, HT.out⟩
set_option maxHeartbeats 2000000 in
theorem act_5 (w : World) (x : Ax) (ua : Option Addr) (uc : Nat) (hk : x.k = 5) (hr : Reads w (.slice ua x.l.length uc) 1 x.l.length (ints x.l)) (hf : x.Fine) (hd : s.ds.length < 100000) (hll : x.l.length ≤ 1000000) (h : SpAt w O R p s z) :
    Calls Tryz.prog 27 #[.pointer (some ⟨p, 0, none⟩), .agg #[.int .i64 x.k, .int .i64 x.r, .int .i64 x.n, .int .i64 x.b, .int .u64 x.v, .slice ua x.l.length uc, .int .i64 x.ek, .int .i64 x.ec]] w fun e w' => e = .returned (.tuple #[]) ∧ SpTo w w' O R p (s.callS x.n x.l x.r x.b).1 := by
  have r1 := (Fr.refl no w).alloc (.cells #[.int .i64 x.k, .int .i64 x.r, .int .i64 x.n, .int .i64 x.b, .int .u64 x.v, .slice ua x.l.length uc, .int .i64 x.ek, .int .i64 x.ec] 57)
  have hb1 := heap_new w (.cells #[.int .i64 x.k, .int .i64 x.r, .int .i64 x.n, .int .i64 x.b, .int .u64 x.v, .slice ua x.l.length uc, .int .i64 x.ek, .int .i64 x.ec] 57)
  have HB := Lib.hid hb1
  have R1 := Lib.hid r1
  have H := Lib.hid (h.fr r1)
  have HL := Lib.hid (hr.fr r1 (by simp))
  have HW : Hid (w.heap.size ≠ p ∧ ¬ O w.heap.size) := Lib.hid ⟨fun e => by have := h.lt p (.inl h.op); omega, fun e => by have := h.lt _ (.inl e); omega⟩
  obtain ⟨b0, b1, b2, b3, b4, b5, b6, b7⟩ := cells8 hb1
  have HLL : Hid (x.l.length ≤ 1000000) := Lib.hid hll
  have HF := Lib.hid hf
  have HD := Lib.hid hd
  obtain ⟨xk, xr, xn, xb, xv, xl, xek, xec⟩ := x
  dsimp only at *
  subst hk
  clear hll hb1 r1 h hr hf hd
  go_enter Tryz.func27, Tryz.ntmps27
  go_wp2_with fail
  refine (scall_ok _ H.out HLL.out HL.out).mono ?_
  rintro e w2 ⟨rfl, k⟩
  have HT := Lib.hid (k.pre R1.out)
  clear k

  go_wp2_with fail
  go_end0
  exact ⟨rfl, HT.out⟩
set_option maxHeartbeats 2000000 in
theorem act_6 (w : World) (x : Ax) (ua : Option Addr) (uc : Nat) (hk : x.k = 6) (hr : Reads w (.slice ua x.l.length uc) 1 x.l.length (ints x.l)) (hf : x.Fine) (hd : s.ds.length < 100000) (h : SpAt w O R p s z) :
    Calls Tryz.prog 27 #[.pointer (some ⟨p, 0, none⟩), .agg #[.int .i64 x.k, .int .i64 x.r, .int .i64 x.n, .int .i64 x.b, .int .u64 x.v, .slice ua x.l.length uc, .int .i64 x.ek, .int .i64 x.ec]] w fun e w' => e = .returned (.tuple #[]) ∧ SpTo w w' O R p (s.retS x.v).1 := by
  have r1 := (Fr.refl no w).alloc (.cells #[.int .i64 x.k, .int .i64 x.r, .int .i64 x.n, .int .i64 x.b, .int .u64 x.v, .slice ua x.l.length uc, .int .i64 x.ek, .int .i64 x.ec] 57)
  have hb1 := heap_new w (.cells #[.int .i64 x.k, .int .i64 x.r, .int .i64 x.n, .int .i64 x.b, .int .u64 x.v, .slice ua x.l.length uc, .int .i64 x.ek, .int .i64 x.ec] 57)
  have HB := Lib.hid hb1
  have R1 := Lib.hid r1
  have H := Lib.hid (h.fr r1)
  have HL := Lib.hid (hr.fr r1 (by simp))
  have HW : Hid (w.heap.size ≠ p ∧ ¬ O w.heap.size) := Lib.hid ⟨fun e => by have := h.lt p (.inl h.op); omega, fun e => by have := h.lt _ (.inl e); omega⟩
  obtain ⟨b0, b1, b2, b3, b4, b5, b6, b7⟩ := cells8 hb1
  have HF := Lib.hid hf
  have HD := Lib.hid hd
  obtain ⟨xk, xr, xn, xb, xv, xl, xek, xec⟩ := x
  dsimp only at *
  subst hk
  clear hb1 r1 h hr hf hd
  go_enter Tryz.func27, Tryz.ntmps27
  go_wp2_with fail
  refine (sreturn_ok _ xv HF.out.v1 H.out).mono ?_
  rintro e w2 ⟨rfl, k⟩
  have HT := Lib.hid (k.pre R1.out)
  clear k

  go_wp2_with fail
  go_end0
  exact ⟨rfl, HT.out⟩
set_option maxHeartbeats 2000000 in
theorem act_7 (w : World) (x : Ax) (ua : Option Addr) (uc : Nat) (hk : x.k = 7) (hr : Reads w (.slice ua x.l.length uc) 1 x.l.length (ints x.l)) (hf : x.Fine) (hd : s.ds.length < 100000) (h : SpAt w O R p s z) :
    Calls Tryz.prog 27 #[.pointer (some ⟨p, 0, none⟩), .agg #[.int .i64 x.k, .int .i64 x.r, .int .i64 x.n, .int .i64 x.b, .int .u64 x.v, .slice ua x.l.length uc, .int .i64 x.ek, .int .i64 x.ec]] w fun e w' => e = .returned (.tuple #[]) ∧ SpTo w w' O R p (s.stopS (x.ek, x.ec)).1 := by
  have r1 := (Fr.refl no w).alloc (.cells #[.int .i64 x.k, .int .i64 x.r, .int .i64 x.n, .int .i64 x.b, .int .u64 x.v, .slice ua x.l.length uc, .int .i64 x.ek, .int .i64 x.ec] 57)
  have hb1 := heap_new w (.cells #[.int .i64 x.k, .int .i64 x.r, .int .i64 x.n, .int .i64 x.b, .int .u64 x.v, .slice ua x.l.length uc, .int .i64 x.ek, .int .i64 x.ec] 57)
  have HB := Lib.hid hb1
  have R1 := Lib.hid r1
  have H := Lib.hid (h.fr r1)
  have HL := Lib.hid (hr.fr r1 (by simp))
  have HW : Hid (w.heap.size ≠ p ∧ ¬ O w.heap.size) := Lib.hid ⟨fun e => by have := h.lt p (.inl h.op); omega, fun e => by have := h.lt _ (.inl e); omega⟩
  obtain ⟨b0, b1, b2, b3, b4, b5, b6, b7⟩ := cells8 hb1
  have HF := Lib.hid hf
  have HD := Lib.hid hd
  obtain ⟨xk, xr, xn, xb, xv, xl, xek, xec⟩ := x
  dsimp only at *
  subst hk
  clear hb1 r1 h hr hf hd
  go_enter Tryz.func27, Tryz.ntmps27
  go_wp2_with fail
  refine (sstop_ok _ xek xec H.out).mono ?_
  rintro e w2 ⟨rfl, k⟩
  have HT := Lib.hid (k.pre R1.out)
  clear k

  go_wp2_with fail
  go_end0
  exact ⟨rfl, HT.out⟩
set_option maxHeartbeats 2000000 in
theorem act_8 (w : World) (x : Ax) (ua : Option Addr) (uc : Nat) (hk : x.k = 8) (hr : Reads w (.slice ua x.l.length uc) 1 x.l.length (ints x.l)) (hf : x.Fine) (hd : s.ds.length < 100000) (h : SpAt w O R p s z) :
    Calls Tryz.prog 27 #[.pointer (some ⟨p, 0, none⟩), .agg #[.int .i64 x.k, .int .i64 x.r, .int .i64 x.n, .int .i64 x.b, .int .u64 x.v, .slice ua x.l.length uc, .int .i64 x.ek, .int .i64 x.ec]] w fun e w' => e = .returned (.tuple #[]) ∧ SpTo w w' O R p (s.getbS).1 := by
  have r1 := (Fr.refl no w).alloc (.cells #[.int .i64 x.k, .int .i64 x.r, .int .i64 x.n, .int .i64 x.b, .int .u64 x.v, .slice ua x.l.length uc, .int .i64 x.ek, .int .i64 x.ec] 57)
  have hb1 := heap_new w (.cells #[.int .i64 x.k, .int .i64 x.r, .int .i64 x.n, .int .i64 x.b, .int .u64 x.v, .slice ua x.l.length uc, .int .i64 x.ek, .int .i64 x.ec] 57)
  have HB := Lib.hid hb1
  have R1 := Lib.hid r1
  have H := Lib.hid (h.fr r1)
  have HL := Lib.hid (hr.fr r1 (by simp))
  have HW : Hid (w.heap.size ≠ p ∧ ¬ O w.heap.size) := Lib.hid ⟨fun e => by have := h.lt p (.inl h.op); omega, fun e => by have := h.lt _ (.inl e); omega⟩
  obtain ⟨b0, b1, b2, b3, b4, b5, b6, b7⟩ := cells8 hb1
  have HF := Lib.hid hf
  have HD := Lib.hid hd
  obtain ⟨xk, xr, xn, xb, xv, xl, xek, xec⟩ := x
  dsimp only at *
  subst hk
  clear hb1 r1 h hr hf hd
  go_enter Tryz.func27, Tryz.ntmps27
  go_wp2_with fail
  refine (sgetb_ok _ HD.out H.out).mono ?_
  rintro e w2 ⟨rfl, k⟩
  have HT := Lib.hid (k.pre R1.out)
  clear k

  go_wp2_with fail
  go_end0
  exact ⟨rfl, HT.out⟩
set_option maxHeartbeats 2000000 in
theorem act_9 (w : World) (x : Ax) (ua : Option Addr) (uc : Nat) (hk : x.k = 9) (hr : Reads w (.slice ua x.l.length uc) 1 x.l.length (ints x.l)) (hf : x.Fine) (hd : s.ds.length < 100000) (h : SpAt w O R p s z) :
    Calls Tryz.prog 27 #[.pointer (some ⟨p, 0, none⟩), .agg #[.int .i64 x.k, .int .i64 x.r, .int .i64 x.n, .int .i64 x.b, .int .u64 x.v, .slice ua x.l.length uc, .int .i64 x.ek, .int .i64 x.ec]] w fun e w' => e = .returned (.tuple #[]) ∧ SpTo w w' O R p (s.putbS x.n).1 := by
  have r1 := (Fr.refl no w).alloc (.cells #[.int .i64 x.k, .int .i64 x.r, .int .i64 x.n, .int .i64 x.b, .int .u64 x.v, .slice ua x.l.length uc, .int .i64 x.ek, .int .i64 x.ec] 57)
  have hb1 := heap_new w (.cells #[.int .i64 x.k, .int .i64 x.r, .int .i64 x.n, .int .i64 x.b, .int .u64 x.v, .slice ua x.l.length uc, .int .i64 x.ek, .int .i64 x.ec] 57)
  have HB := Lib.hid hb1
  have R1 := Lib.hid r1
  have H := Lib.hid (h.fr r1)
  have HL := Lib.hid (hr.fr r1 (by simp))
  have HW : Hid (w.heap.size ≠ p ∧ ¬ O w.heap.size) := Lib.hid ⟨fun e => by have := h.lt p (.inl h.op); omega, fun e => by have := h.lt _ (.inl e); omega⟩
  obtain ⟨b0, b1, b2, b3, b4, b5, b6, b7⟩ := cells8 hb1
  have HF := Lib.hid hf
  have HD := Lib.hid hd
  obtain ⟨xk, xr, xn, xb, xv, xl, xek, xec⟩ := x
  dsimp only at *
  subst hk
  clear hb1 r1 h hr hf hd
  go_enter Tryz.func27, Tryz.ntmps27
  go_wp2_with fail
  refine (sputb_ok _ xn HD.out H.out).mono ?_
  rintro e w2 ⟨rfl, k⟩
  have HT := Lib.hid (k.pre R1.out)
  clear k

  go_wp2_with fail
  go_end0
  exact ⟨rfl, HT.out⟩
set_option maxHeartbeats 2000000 in
theorem act_10 (w : World) (x : Ax) (ua : Option Addr) (uc : Nat) (hk : x.k = 10) (hr : Reads w (.slice ua x.l.length uc) 1 x.l.length (ints x.l)) (hf : x.Fine) (hd : s.ds.length < 100000) (h : SpAt w O R p s z) :
    Calls Tryz.prog 27 #[.pointer (some ⟨p, 0, none⟩), .agg #[.int .i64 x.k, .int .i64 x.r, .int .i64 x.n, .int .i64 x.b, .int .u64 x.v, .slice ua x.l.length uc, .int .i64 x.ek, .int .i64 x.ec]] w fun e w' => e = .returned (.tuple #[]) ∧ SpTo w w' O R p (s.stoS x.v (u64of x.n)).1 := by
  have r1 := (Fr.refl no w).alloc (.cells #[.int .i64 x.k, .int .i64 x.r, .int .i64 x.n, .int .i64 x.b, .int .u64 x.v, .slice ua x.l.length uc, .int .i64 x.ek, .int .i64 x.ec] 57)
  have hb1 := heap_new w (.cells #[.int .i64 x.k, .int .i64 x.r, .int .i64 x.n, .int .i64 x.b, .int .u64 x.v, .slice ua x.l.length uc, .int .i64 x.ek, .int .i64 x.ec] 57)
  have HB := Lib.hid hb1
  have R1 := Lib.hid r1
  have H := Lib.hid (h.fr r1)
  have HL := Lib.hid (hr.fr r1 (by simp))
  have HW : Hid (w.heap.size ≠ p ∧ ¬ O w.heap.size) := Lib.hid ⟨fun e => by have := h.lt p (.inl h.op); omega, fun e => by have := h.lt _ (.inl e); omega⟩
  obtain ⟨b0, b1, b2, b3, b4, b5, b6, b7⟩ := cells8 hb1
  have HF := Lib.hid hf
  obtain ⟨xk, xr, xn, xb, xv, xl, xek, xec⟩ := x
  dsimp only at *
  subst hk
  clear hb1 r1 h hr hf hd
  go_enter Tryz.func27, Tryz.ntmps27
  go_upto_region 22 with (fail)
  generalize w.alloc (.cells #[.int .i64 10, .int .i64 xr, .int .i64 xn, .int .i64 xb, .int .u64 xv, .slice ua xl.length uc, .int .i64 xek, .int .i64 xec] 57) = w1 at *
  have H1 := Lib.hid (H.out.fr (Fr.refl no w1).drew)
  have hb2 := (Fr.refl no w1).drew.heap HB.out (by simp)
  have S1 : Hid (w1.drew.cell? ⟨w.heap.size, 4, none⟩ = some (.int .u64 xv) ∧ w1.drew.cell? ⟨w.heap.size, 2, none⟩ = some (.int .i64 xn)) := Lib.hid ⟨cell_of_heap hb2 rfl, cell_of_heap hb2 rfl⟩
  have HB2 := Lib.hid hb2
  have hwr := u64of_wrap xn
  have HU := Lib.hid (u64of_lt xn)
  clear hb2 b0 b1 b2 b3 b4 b5 b6 b7
  refine Lex.region [1, 7] [8] (by kernel_rfl) (by kernel_rfl) ?_
  refine Lex.opens (fun w' => w'.cell? ⟨w.heap.size, 4, none⟩ = some (.int .u64 xv) ∧ w'.cell? ⟨w.heap.size, 2, none⟩ = some (.int .i64 xn)) (S1.out) ?_
  repeat (first
    | (refine Lex.skips (by rfl) ?_; (try simp only [Act.put, List.setIfInBounds_toArray, List.set_cons_zero, List.set_cons_succ]))
    | (refine Lex.quiet (v := ?_) (by rfl) (by rfl) ?_ ?_; rotate_left; (focus (intro w' hS'; go_simp; try rfl)); (try simp only [Act.put, List.setIfInBounds_toArray, List.set_cons_zero, List.set_cons_succ])))
  refine Lex.loud (by rfl) (by rfl) ?_
  intro K' hK'
  go_simp
  refine (smemory_ok _ H1.out).mono ?_
  rintro e w' ⟨rfl, rfl⟩
  refine hK' _ _ (S1.out) ?_
  clear hK'
  try simp only [Act.put, List.setIfInBounds_toArray, List.set_cons_zero, List.set_cons_succ]
  repeat (first
    | (refine Lex.skips (by rfl) ?_; (try simp only [Act.put, List.setIfInBounds_toArray, List.set_cons_zero, List.set_cons_succ]))
    | (refine Lex.quiet (v := ?_) (by rfl) (by rfl) ?_ ?_; rotate_left; (focus (intro w' hS'; go_simp; try rfl)); (try simp only [Act.put, List.setIfInBounds_toArray, List.set_cons_zero, List.set_cons_succ])))
  refine Lex.loud (by rfl) (by rfl) ?_
  intro K' hK'
  go_simp
  refine (sto_ok _ xv (u64of xn) HF.out.v1 HU.out H1.out).mono ?_
  rintro e w2 ⟨rfl, h2, r2⟩
  have hb3 := r2.heap HB2.out HW.out.2
  have HT := Lib.hid (h2.to ((R1.out.to.trans (Fr.refl no w1).drew.to).trans r2))
  have S2 : Hid (w2.cell? ⟨w.heap.size, 4, none⟩ = some (.int .u64 xv) ∧ w2.cell? ⟨w.heap.size, 2, none⟩ = some (.int .i64 xn)) := Lib.hid ⟨cell_of_heap hb3 rfl, cell_of_heap hb3 rfl⟩
  clear h2 r2 hb3
  refine hK' _ _ (S2.out) ?_
  clear hK'
  try simp only [Act.put, List.setIfInBounds_toArray, List.set_cons_zero, List.set_cons_succ]
  refine Lex.done ?_
  refine Lex.ends ?_
  go_wp2_with fail
  go_end0
  exact ⟨rfl, HT.out⟩
set_option maxHeartbeats 2000000 in
theorem act_no (w : World) (x : Ax) (ua : Option Addr) (uc : Nat) (hk : x.k < 0 ∨ 10 < x.k) (hr : Reads w (.slice ua x.l.length uc) 1 x.l.length (ints x.l)) (hf : x.Fine) (hd : s.ds.length < 100000) (h : SpAt w O R p s z) :
    Calls Tryz.prog 27 #[.pointer (some ⟨p, 0, none⟩), .agg #[.int .i64 x.k, .int .i64 x.r, .int .i64 x.n, .int .i64 x.b, .int .u64 x.v, .slice ua x.l.length uc, .int .i64 x.ek, .int .i64 x.ec]] w fun e w' => e = .returned (.tuple #[]) ∧ SpTo w w' O R p s := by
  have r1 := (Fr.refl no w).alloc (.cells #[.int .i64 x.k, .int .i64 x.r, .int .i64 x.n, .int .i64 x.b, .int .u64 x.v, .slice ua x.l.length uc, .int .i64 x.ek, .int .i64 x.ec] 57)
  have hb1 := heap_new w (.cells #[.int .i64 x.k, .int .i64 x.r, .int .i64 x.n, .int .i64 x.b, .int .u64 x.v, .slice ua x.l.length uc, .int .i64 x.ek, .int .i64 x.ec] 57)
  have HB := Lib.hid hb1
  have R1 := Lib.hid r1
  have H := Lib.hid (h.fr r1)
  have HL := Lib.hid (hr.fr r1 (by simp))
  have HW : Hid (w.heap.size ≠ p ∧ ¬ O w.heap.size) := Lib.hid ⟨fun e => by have := h.lt p (.inl h.op); omega, fun e => by have := h.lt _ (.inl e); omega⟩
  obtain ⟨b0, b1, b2, b3, b4, b5, b6, b7⟩ := cells8 hb1
  have n0 : (x.k == 0) = false := beq_eq_false_iff_ne.2 (by omega)
  have n1 : (x.k == 1) = false := beq_eq_false_iff_ne.2 (by omega)
  have n2 : (x.k == 2) = false := beq_eq_false_iff_ne.2 (by omega)
  have n3 : (x.k == 3) = false := beq_eq_false_iff_ne.2 (by omega)
  have n4 : (x.k == 4) = false := beq_eq_false_iff_ne.2 (by omega)
  have n5 : (x.k == 5) = false := beq_eq_false_iff_ne.2 (by omega)
  have n6 : (x.k == 6) = false := beq_eq_false_iff_ne.2 (by omega)
  have n7 : (x.k == 7) = false := beq_eq_false_iff_ne.2 (by omega)
  have n8 : (x.k == 8) = false := beq_eq_false_iff_ne.2 (by omega)
  have n9 : (x.k == 9) = false := beq_eq_false_iff_ne.2 (by omega)
  have n10 : (x.k == 10) = false := beq_eq_false_iff_ne.2 (by omega)
  clear hb1 r1 h hr hf hd hk
  go_enter Tryz.func27, Tryz.ntmps27
  go_wp2_with fail
  go_end0
  exact ⟨rfl, H.out.to R1.out.to⟩
theorem act_ok (w : World) (x : Ax) (ua : Option Addr) (uc : Nat) (hr : Reads w (.slice ua x.l.length uc) 1 x.l.length (ints x.l)) (hf : x.Fine) (hd : s.ds.length < 100000) (hll : x.l.length ≤ 1000000) (h : SpAt w O R p s z) :
    Calls Tryz.prog 27 #[.pointer (some ⟨p, 0, none⟩), .agg #[.int .i64 x.k, .int .i64 x.r, .int .i64 x.n, .int .i64 x.b, .int .u64 x.v, .slice ua x.l.length uc, .int .i64 x.ek, .int .i64 x.ec]] w fun e w' => e = .returned (.tuple #[]) ∧ SpTo w w' O R p (s.actS x) := by
  by_cases h0 : x.k = 0
  · rw [show s.actS x = s from by simp [Zp.actS, h0]]; exact act_0 w x ua uc h0 hr hf hd h
  by_cases h1 : x.k = 1
  · rw [show s.actS x = (s.setS x.r x.v).1 from by simp [Zp.actS, h1]]; exact act_1 w x ua uc h1 hr hf hd h
  by_cases h2 : x.k = 2
  · rw [show s.actS x = (s.goS x.n).1 from by simp [Zp.actS, h2]]; exact act_2 w x ua uc h2 hr hf hd h
  by_cases h3 : x.k = 3
  · rw [show s.actS x = (s.burnS x.n).1 from by simp [Zp.actS, h3]]; exact act_3 w x ua uc h3 hr hf hd h
  by_cases h4 : x.k = 4
  · rw [show s.actS x = (s.callS x.n x.l x.r x.b).1 from by simp [Zp.actS, h4]]; exact act_4 w x ua uc h4 hr hf hd hll h
  by_cases h5 : x.k = 5
  · rw [show s.actS x = (s.callS x.n x.l x.r x.b).1 from by simp [Zp.actS, h5]]; exact act_5 w x ua uc h5 hr hf hd hll h
  by_cases h6 : x.k = 6
  · rw [show s.actS x = (s.retS x.v).1 from by simp [Zp.actS, h6]]; exact act_6 w x ua uc h6 hr hf hd h
  by_cases h7 : x.k = 7
  · rw [show s.actS x = (s.stopS (x.ek, x.ec)).1 from by simp [Zp.actS, h7]]; exact act_7 w x ua uc h7 hr hf hd h
  by_cases h8 : x.k = 8
  · rw [show s.actS x = (s.getbS).1 from by simp [Zp.actS, h8]]; exact act_8 w x ua uc h8 hr hf hd h
  by_cases h9 : x.k = 9
  · rw [show s.actS x = (s.putbS x.n).1 from by simp [Zp.actS, h9]]; exact act_9 w x ua uc h9 hr hf hd h
  by_cases h10 : x.k = 10
  · rw [show s.actS x = (s.stoS x.v (u64of x.n)).1 from by simp [Zp.actS, h10]]; exact act_10 w x ua uc h10 hr hf hd h
  rw [show s.actS x = s from by simp [Zp.actS, h0, h1, h2, h3, h4, h5, h6, h7, h8, h9, h10]]
  exact act_no w x ua uc (by omega) hr hf hd h

end Go.Proofs.YtihnkijeefkefaaGreat

set_option linter.unusedSimpArgs false
set_option linter.unusedVariables false
set_option linter.unusedSectionVars false
set_option linter.unnecessarySimpa false
set_option maxRecDepth 100000
/- What SpaceBack's calls leave. Plain. -/
namespace Go.Proofs.YtihnkijeefkefaaGreat

variable {s t : Zp}

theorem setS_len (h : s.Ok) (r : Int) (v : Nat) : (s.setS r v).1.b.length = s.b.length ∧ (s.setS r v).1.ds = s.ds := by
  unfold Zp.setS
  split
  · exact ⟨rfl, rfl⟩
  · rename_i he
    split
    · exact ⟨rfl, rfl⟩
    · rename_i hr
      exact ⟨wr8_len v (h.inR (by simpa using he) (by simpa using hr)).2.2.1, rfl⟩
theorem layS_b : ∀ (l : List Nat) (s : Zp) (k : Nat), s.at_ + 8 * (k + l.length) ≤ s.b.length → (s.layS k l).b.length = s.b.length ∧ ∀ i, s.at_ + 8 * (k + l.length) ≤ i → (s.layS k l).b[i]? = s.b[i]?
  | [], s, k, _ => ⟨rfl, fun _ _ => rfl⟩
  | v :: l, s, k, hk => by
    have hk' : s.at_ + 8 * (k + (l.length + 1)) ≤ s.b.length := hk
    have h8 : s.at_ + 8 * k + 8 ≤ s.b.length := by omega
    have hl := wr8_len v h8
    have ih := layS_b l (s.putR k v) (k + 1) (by show s.at_ + 8 * (k + 1 + l.length) ≤ (wr8 s.b (s.at_ + 8 * k) v).length; rw [hl]; omega)
    refine ⟨ih.1.trans hl, fun i hi => ?_⟩
    have hi' : s.at_ + 8 * (k + (l.length + 1)) ≤ i := hi
    exact (ih.2 i (by show s.at_ + 8 * (k + 1 + l.length) ≤ i; omega)).trans (wr8_get v h8 (.inr (by omega)))

/-- a call that went down -/
structure Down (s t : Zp) (f r : Nat) (back : Int) : Prop where
  m : t.m = s.m
  e : t.e = (0, 0)
  f : t.f = f
  pc : t.pc = 0
  le : t.at_ ≤ s.at_
  ls : t.ls = s.ls ++ [⟨s.f, s.at_, back, r⟩]
  bl : t.b.length = s.b.length
  rg : s.rg r = true
theorem zero_end {e : Dd} (h : e = (0, 0) ∨ mayE e = true) (h0 : e.1 = 0) : e = (0, 0) := by
  rcases h with h | h
  · exact h
  · obtain ⟨k, c⟩ := e
    have : k = 0 := h0
    subst this
    rw [mayE_else 0 c (by decide) (by decide) (by decide) (by decide)] at h
    simp at h
theorem call_cases (h : s.Ok) (f : Int) (args : List Int) (res back : Int) : (s.callS f args res back).1.ls.length = s.ls.length ∧ (s.callS f args res back).1.b.length = s.b.length ∧ (s.callS f args res back).1.ds = s.ds ∨
    ((s.callS f args res back).2 = 0 ∧ (s.callS f args res back).1.ds = s.ds ∧ s.e = (0, 0) ∧ ∃ fn rn : Nat, f = fn ∧ res = rn ∧ Down s (s.callS f args res back).1 fn rn back ∧ ∀ i, s.at_ ≤ i → (s.callS f args res back).1.b[i]? = s.b[i]?) := by
  unfold Zp.callS
  split
  · exact .inl ⟨rfl, rfl, rfl⟩
  · rename_i he
    split
    · exact .inl ⟨rfl, rfl, rfl⟩
    · rename_i hf
      split
      · exact .inl ⟨rfl, rfl, rfl⟩
      · rename_i hr
        split
        · exact .inl ⟨rfl, rfl, rfl⟩
        · rename_i hfl
          right
          have he : s.e.1 = 0 := by simpa using he
          simp only [Zp.badR, Bool.not_eq_true, Bool.or_eq_false_iff, Bool.not_eq_false'] at hr
          have hd := h.down he (by simpa using hf) hr.1.1 hr.1.2 (by simpa using hfl)
          simp only [Zp.badF, Bool.not_eq_true, decide_eq_false_iff_not, not_or] at hf
          have c := fnOf_ck h.ck (f := f.toNat) (by omega)
          have hfit := hd.fit (by show s.e.1 = 0; exact he)
          have hsz := fsz_ge c.2.2.2.2.1
          have hat : (s.down f res back).at_ = s.at_ - fsz (fnOf s.m f.toNat) := rfl
          have hfr : (fnOf (s.down f res back).m (s.down f res back).f) = fnOf s.m f.toNat := rfl
          rw [hfr] at hfit
          simp only [Zp.full, decide_eq_true_eq, not_or] at hfl
          have hlb : (s.down f res back).at_ + 8 * (0 + (s.argsS args).length) ≤ (s.down f res back).b.length := by
            refine Nat.le_trans ?_ hfit
            simp only [Zp.argsS, List.length_map]
            omega
          have hb := layS_b (s.argsS args) (s.down f res back) 0 hlb
          have sm := layS_same (s.argsS args) (s.down f res back) 0
          have hrr := hr.1.1
          simp only [Zp.rg, isRg, decide_eq_true_eq] at hrr
          have e0 := zero_end h.em he
          refine ⟨rfl, sm.2.2.2.1, e0, f.toNat, res.toNat, by omega, by omega, ⟨sm.1, ?_, sm.2.2.2.2.2.2.1, sm.2.2.2.2.2.2.2.1, ?_, ?_, hb.1, ?_⟩, fun i hi => ?_⟩
          · rw [sm.2.2.2.2.2.2.2.2.2]; exact e0
          · rw [sm.2.2.2.2.2.1, hat]; omega
          · rw [sm.2.2.2.2.2.2.2.2.1]
            show s.ls ++ [⟨s.f, s.at_, back, res⟩] = _
            rw [show ((res.toNat : Nat) : Int) = res by omega]
          · rw [show ((res.toNat : Nat) : Int) = res by omega]; exact hr.1.1
          · refine hb.2 i ?_
            simp only [Zp.argsS, List.length_map]
            rw [hat]
            omega
theorem Down.ret {f r : Nat} {back : Int} (h : Down s t f r back) (v : Nat) : t.retS v = ({ t with ls := s.ls, f := s.f, at_ := s.at_, pc := back, b := wr8 t.b (s.at_ + 8 * r) v }, 0) := by
  rw [retS_0 (by rw [h.e]) h.ls]
  have hup : t.up ⟨s.f, s.at_, back, r⟩ = { t with ls := s.ls, f := s.f, at_ := s.at_, pc := back } := by
    unfold Zp.up
    rw [h.ls, List.dropLast_concat]
  rw [hup]
  have hrg : ({ t with ls := s.ls, f := s.f, at_ := s.at_, pc := back } : Zp).rg r = true := by
    show isRg t.m s.f r = true
    rw [h.m]
    exact h.rg
  rw [setS_0 (by show t.e.1 = 0; rw [h.e]) hrg]
  rfl
/-- what is there behind the return -/
structure Back (s u : Zp) (r v : Nat) (back : Int) : Prop where
  f : u.f = s.f
  at_ : u.at_ = s.at_
  ls : u.ls.length = s.ls.length
  pc : u.pc = back
  g : u.getS r = (v, 0)
  bl : u.b.length = s.b.length
theorem Down.back {f r : Nat} {back : Int} (h : Down s t f r back) (hs : s.Ok) (he : s.e = (0, 0)) {v : Nat} (hv : v < 18446744073709551616) :
    (t.retS v).2 = 0 ∧ Back s (t.retS v).1 r v back ∧ ∀ i, i < s.at_ + 8 * r ∨ s.at_ + 8 * r + 8 ≤ i → (t.retS v).1.b[i]? = t.b[i]? := by
  rw [h.ret v]
  have hin := hs.inR (by rw [he]) h.rg
  have h8 : s.at_ + 8 * r + 8 ≤ t.b.length := by rw [h.bl]; have := hin.2.2.1; simpa using this
  refine ⟨rfl, ⟨rfl, rfl, rfl, rfl, ?_, (wr8_len v h8).trans h.bl⟩, fun i hi => wr8_get v h8 hi⟩
  rw [getS_0 (by show t.e.1 = 0; rw [h.e]) (by show isRg t.m s.f r = true; rw [h.m]; exact h.rg)]
  show (rd8 (wr8 t.b (s.at_ + 8 * r) v) (s.at_ + 8 * r), (0 : Int)) = (v, 0)
  rw [rd8_wr8 h8 hv]
theorem actS_keep (h : s.Ok) (x : Ax) : (s.actS x).b.length = s.b.length ∧ (s.actS x).ds.length ≤ s.ds.length + 1 := by
  unfold Zp.actS
  split
  · exact ⟨rfl, by omega⟩
  split
  · have := setS_len h x.r x.v; rw [this.1, this.2]; exact ⟨rfl, by omega⟩
  split
  · unfold Zp.goS; split
    · exact ⟨rfl, by dsimp only; omega⟩
    · split <;> exact ⟨rfl, by dsimp only; omega⟩
  split
  · unfold Zp.burnS; split
    · exact ⟨rfl, by dsimp only; omega⟩
    · split <;> exact ⟨rfl, by dsimp only; omega⟩
  split
  · rcases call_cases h x.n x.l x.r x.b with h1 | h1
    · rw [h1.2.1, h1.2.2]; exact ⟨rfl, by omega⟩
    · obtain ⟨-, hd, -, fn, rn, -, -, hdn, -⟩ := h1
      rw [hdn.bl, hd]; exact ⟨rfl, by omega⟩
  split
  · unfold Zp.retS
    split
    · exact ⟨rfl, by dsimp only; omega⟩
    · rename_i he
      split
      · exact ⟨rfl, by dsimp only; omega⟩
      · rename_i y hy
        have := setS_len (h.up (by simpa using he) hy).1 y.res x.v
        rw [this.1, this.2]
        exact ⟨rfl, by show s.ds.length ≤ _; omega⟩
  split
  · unfold Zp.stopS; split
    · exact ⟨rfl, by dsimp only; omega⟩
    · split <;> exact ⟨rfl, by dsimp only; omega⟩
  split
  · unfold Zp.getbS; split
    · exact ⟨rfl, by dsimp only; omega⟩
    · exact ⟨rfl, by show (s.ds ++ [_]).length ≤ _; simp⟩
  split
  · unfold Zp.putbS; split
    · exact ⟨rfl, by dsimp only; omega⟩
    · exact ⟨rfl, by show (s.ds ++ [_]).length ≤ _; simp⟩
  split
  · unfold Zp.stoS; split
    · rename_i hi
      simp only [inB, decide_eq_true_eq] at hi
      exact ⟨wr8_len _ hi.2, by dsimp only; omega⟩
    · exact ⟨rfl, by dsimp only; omega⟩
  · exact ⟨rfl, by omega⟩

theorem newS_same (m : Mx) (n : Nat) (inp : List Nat) (fuel : Int) : (newS m n inp fuel).m = m ∧ (newS m n inp fuel).inp = inp ∧ (newS m n inp fuel).ls = [] ∧ (newS m n inp fuel).ds = [] ∧ (newS m n inp fuel).f = 0 ∧ (newS m n inp fuel).fuel = fuel := by
  unfold newS
  split
  · have sm := layS_same (List.replicate (fnOf m 0).p.toNat 0) (sp1 m n inp fuel) 0
    exact ⟨sm.1, sm.2.1, sm.2.2.2.2.2.2.2.2.1, sm.2.2.2.1, sm.2.2.2.2.2.2.1, sm.2.2.2.2.1⟩
  · exact ⟨rfl, rfl, rfl, rfl, rfl, rfl⟩
theorem NewArg.len {m : Mx} {n : Nat} {inp : List Nat} {fuel : Int} (h : NewArg m n inp fuel) : (newS m n inp fuel).b.length = n := by
  unfold newS
  cases hf : fits0 m n
  · exact h.blen
  · rw [if_pos rfl]
    have h1 := h.one hf
    have c := fnOf_ck h.ck h.fi
    have h2 := h1.fit rfl
    refine (layS_b _ _ 0 ?_).1.trans h.blen
    rw [List.length_replicate]
    refine Nat.le_trans ?_ h2
    show _ ≤ (sp1 m n inp fuel).at_ + 8 * (fnOf m 0).r.toNat
    omega

end Go.Proofs.YtihnkijeefkefaaGreat

set_option linter.unusedSimpArgs false
set_option linter.unusedVariables false
set_option linter.unusedSectionVars false
set_option linter.unnecessarySimpa false
set_option maxRecDepth 100000
/- Things that lie side by side in a world, and calls that turn one of them. -/
namespace Go.Proofs.YtihnkijeefkefaaGreat
open Go.RowKit

attribute [local go_sem] Program.isFuncB Program.isSliceB

variable {w w' w'' w0 : World} {O R : Nat → Prop} {A A' B B' : (Nat → Prop) → (Nat → Prop) → World → Prop}

theorem at_mid {b o : Nat} {cs : Array Value} {t : TypeId} {l : List Value} (h : w.heap[b]? = some (.cells cs t (0, 0))) (hl : ∀ j v, l[j]? = some v → cs[o + j]? = some v) : At w b o l := fun j v hj => cell_of_heap h (hl j v hj)
/-- a thing: blocks that may turn, blocks that are read -/
structure Thing (T : (Nat → Prop) → (Nat → Prop) → World → Prop) : Prop where
  fr : ∀ (O R S : Nat → Prop) (w w' : World), T O R w → Fr S w w' → (∀ k, S k → k < w.heap.size → ¬ O k ∧ ¬ R k) → T O R w'
  lt : ∀ (O R : Nat → Prop) (w : World), T O R w → ∀ k, O k ∨ R k → k < w.heap.size
/-- behind a call: what it has of its own is what it had, or new -/
def ThTo (w w' : World) (O R : Nat → Prop) (T : (Nat → Prop) → (Nat → Prop) → World → Prop) : Prop := ∃ O', T O' R w' ∧ Fr O w w' ∧ ∀ k, O' k → O k ∨ w.heap.size ≤ k
theorem ThTo.pre {w1 : World} (h : ThTo w1 w' O R A) (r : Fr no w w1) : ThTo w w' O R A := by
  obtain ⟨O', h1, h2, h3⟩ := h
  exact ⟨O', h1, r.to.trans h2, fun k hk => (h3 k hk).imp id (fun h => Nat.le_trans r.size h)⟩
/-- two calls, one behind the other -/
theorem ThTo.trans {w1 w2 : World} {O1 : Nat → Prop} (r : Fr O w w1) (h4 : ∀ k, O1 k → O k ∨ w.heap.size ≤ k) (h : ThTo w1 w2 O1 R A) : ThTo w w2 O R A := by
  obtain ⟨O', h1, h2, h3⟩ := h
  refine ⟨O', h1, r.trans' h2 (fun k hk hn => (h4 k hk).elim (fun h => absurd h hn) id), fun k hk => ?_⟩
  · exact (h3 k hk).elim (h4 k) (fun h => .inr (Nat.le_trans r.size h))

/-- the program's space, and the document's -/
def SpT (p : Nat) (s : Zp) : (Nat → Prop) → (Nat → Prop) → World → Prop := fun O R w => ∃ z, SpAt w O R p s z
theorem spT (p : Nat) (s : Zp) : Thing (SpT p s) := ⟨fun O R S w w' ⟨z, h⟩ r hS => ⟨z, h.frx r hS⟩, fun O R w ⟨z, h⟩ => h.lt⟩
theorem SpTo.th {p : Nat} {s : Zp} (h : SpTo w w' O R p s) : ThTo w w' O R (SpT p s) := by
  obtain ⟨O', z', h1, h2, -, h4⟩ := h
  exact ⟨O', ⟨z', h1⟩, h2, h4⟩
/-- two things, apart -/
def Both (A B : (Nat → Prop) → (Nat → Prop) → World → Prop) : (Nat → Prop) → (Nat → Prop) → World → Prop := fun O R w =>
  ∃ O1 R1 O2 R2 : Nat → Prop, A O1 R1 w ∧ B O2 R2 w ∧ (∀ k, O1 k → ¬ O2 k ∧ ¬ R2 k) ∧ (∀ k, O2 k → ¬ R1 k) ∧ (∀ k, O k ↔ (O1 k ∨ O2 k)) ∧ ∀ k, R k ↔ (R1 k ∨ R2 k)
theorem Both.thing (ha : Thing A) (hb : Thing B) : Thing (Both A B) := by
  refine ⟨fun O R S w w' h r hS => ?_, fun O R w h k hk => ?_⟩
  · obtain ⟨O1, R1, O2, R2, h1, h2, d1, d2, hO, hR⟩ := h
    refine ⟨O1, R1, O2, R2, ha.fr _ _ _ _ _ h1 r (fun k hs hk => ?_), hb.fr _ _ _ _ _ h2 r (fun k hs hk => ?_), d1, d2, hO, hR⟩
    · have := hS k hs hk; rw [hO, hR] at this; exact ⟨fun h => this.1 (.inl h), fun h => this.2 (.inl h)⟩
    · have := hS k hs hk; rw [hO, hR] at this; exact ⟨fun h => this.1 (.inr h), fun h => this.2 (.inr h)⟩
  · obtain ⟨O1, R1, O2, R2, h1, h2, d1, d2, hO, hR⟩ := h
    rw [hO, hR] at hk
    rcases hk with (h | h) | (h | h)
    · exact ha.lt _ _ _ h1 k (.inl h)
    · exact hb.lt _ _ _ h2 k (.inl h)
    · exact ha.lt _ _ _ h1 k (.inr h)
    · exact hb.lt _ _ _ h2 k (.inr h)
/-- a call that turns the first -/
theorem Both.left {f : Nat} {args : Array Value} {r : Ending} (ha : Thing A) (hb : Thing B) (h : Both A B O R w) (hc : ∀ O R, A O R w → Calls Tryz.prog f args w fun e w' => e = r ∧ ThTo w w' O R A') :
    Calls Tryz.prog f args w fun e w' => e = r ∧ ThTo w w' O R (Both A' B) := by
  obtain ⟨O1, R1, O2, R2, h1, h2, d1, d2, hO, hR⟩ := h
  have l2 := hb.lt _ _ _ h2
  have l1 := ha.lt _ _ _ h1
  refine (hc O1 R1 h1).mono ?_
  rintro e w' ⟨rfl, O', h', r, n⟩
  refine ⟨rfl, fun k => O' k ∨ O2 k, ⟨O', R1, O2, R2, h', hb.fr _ _ _ _ _ h2 r (fun k hk _ => d1 k hk), fun k hk => ?_, d2, fun k => Iff.rfl, hR⟩, r.mono (fun k hk _ => (hO k).2 (.inl hk)), fun k hk => ?_⟩
  · rcases n k hk with h | h
    · exact d1 k h
    · exact ⟨fun ho => by have := l2 k (.inl ho); omega, fun ho => by have := l2 k (.inr ho); omega⟩
  · rcases hk with hk | hk
    · exact (n k hk).imp (fun h => (hO k).2 (.inl h)) id
    · exact .inl ((hO k).2 (.inr hk))
/-- a call that turns the second -/
theorem Both.right {f : Nat} {args : Array Value} {r : Ending} (ha : Thing A) (hb : Thing B) (h : Both A B O R w) (hc : ∀ O R, B O R w → Calls Tryz.prog f args w fun e w' => e = r ∧ ThTo w w' O R B') :
    Calls Tryz.prog f args w fun e w' => e = r ∧ ThTo w w' O R (Both A B') := by
  obtain ⟨O1, R1, O2, R2, h1, h2, d1, d2, hO, hR⟩ := h
  have l1 := ha.lt _ _ _ h1
  refine (hc O2 R2 h2).mono ?_
  rintro e w' ⟨rfl, O', h', r, n⟩
  refine ⟨rfl, fun k => O1 k ∨ O' k, ⟨O1, R1, O', R2, ha.fr _ _ _ _ _ h1 r (fun k hk _ => ⟨fun h => (d1 k h).1 hk, d2 k hk⟩), h', fun k hk => ⟨fun ho => ?_, (d1 k hk).2⟩, fun k hk => ?_, fun k => Iff.rfl, hR⟩, r.mono (fun k hk _ => (hO k).2 (.inr hk)), fun k hk => ?_⟩
  · rcases n k ho with h | h
    · exact (d1 k hk).1 h
    · have := l1 k (.inl hk); omega
  · rcases n k hk with h | h
    · exact d2 k h
    · exact fun hr => by have := l1 k (.inr hr); omega
  · rcases hk with hk | hk
    · exact .inl ((hO k).2 (.inl hk))
    · exact (n k hk).imp (fun h => (hO k).2 (.inr h)) id
/-- a call that reads the first alone, or the second -/
theorem Both.at1 {φ : Prop} (h : Both A B O R w) (hc : ∀ O R, A O R w → φ) : φ := by
  obtain ⟨O1, R1, O2, R2, h1, h2, d1, d2, hO, hR⟩ := h
  exact hc _ _ h1
/-- a thing that is new since a world, apart from some blocks -/
def Held (w0 w : World) (T : (Nat → Prop) → (Nat → Prop) → World → Prop) (X : Nat → Prop) : Prop := ∃ O R, T O R w ∧ (∀ k, O k → w0.heap.size ≤ k ∧ ¬ X k) ∧ Fr no w0 w ∧ (∀ k, X k → k < w.heap.size) ∧ ∀ k, R k → ¬ X k
theorem Held.frame {X : Nat → Prop} (h : Held w0 w A X) : Fr no w0 w := by
  obtain ⟨O, R, -, -, r, -⟩ := h
  exact r
theorem Held.turn {X S : Nat → Prop} (ha : Thing A) (h : Held w0 w A X) (r : Fr S w w') (hS : ∀ k, S k → X k ∧ w0.heap.size ≤ k) : Held w0 w' A X := by
  obtain ⟨O, R, h, hO, r0, hX, hRX⟩ := h
  exact ⟨O, R, ha.fr _ _ _ _ _ h r (fun k hk _ => ⟨fun ho => (hO k ho).2 (hS k hk).1, fun hr => hRX k hr (hS k hk).1⟩), hO, r0.trans' r (fun k hk _ => (hS k hk).2), fun k hk => Nat.lt_of_lt_of_le (hX k hk) r.size, hRX⟩
theorem Held.fr {X : Nat → Prop} (ha : Thing A) (h : Held w0 w A X) (r : Fr no w w') : Held w0 w' A X := h.turn ha r (fun k hk => hk.elim)
theorem Held.call {X : Nat → Prop} {f : Nat} {args : Array Value} {r : Ending} (h : Held w0 w A X) (hc : ∀ O R, A O R w → Calls Tryz.prog f args w fun e w' => e = r ∧ ThTo w w' O R A') :
    Calls Tryz.prog f args w fun e w' => e = r ∧ Held w0 w' A' X ∧ Fr (fun k => ¬ X k ∧ w0.heap.size ≤ k) w w' := by
  obtain ⟨O, R, h, hO, r0, hX, hRX⟩ := h
  refine (hc O R h).mono ?_
  rintro e w' ⟨rfl, O', h', r, h2⟩
  exact ⟨rfl, ⟨O', R, h', fun k hk => (h2 k hk).elim (fun h => hO k h) (fun h => ⟨Nat.le_trans r0.size h, fun hx => by have := hX k hx; omega⟩), r0.trans' r (fun k hk _ => (hO k hk).1), fun k hk => Nat.lt_of_lt_of_le (hX k hk) r.size, hRX⟩, r.mono (fun k hk _ => ⟨(hO k hk).2, (hO k hk).1⟩)⟩
theorem Held.one {φ : Prop} {X : Nat → Prop} (h : Held w0 w A X) (hc : ∀ O R, A O R w → φ) : φ := by
  obtain ⟨O, R, h, -⟩ := h
  exact hc _ _ h

end Go.Proofs.YtihnkijeefkefaaGreat

set_option linter.unusedSimpArgs false
set_option linter.unusedVariables false
set_option linter.unusedSectionVars false
set_option linter.unnecessarySimpa false
set_option maxRecDepth 100000
/- A copy of a space. -/
namespace Go.Proofs.YtihnkijeefkefaaGreat
open Go.RowKit

attribute [local go_sem] Program.isFuncB Program.isSliceB

variable {w w' w'' w0 w1 : World} {O R X : Nat → Prop} {p q : Nat} {s s' t t' : Zp} {z : Pz}

theorem owns_low {B : Nat} {e : TypeId} {k n : Nat} {v : Value} {xs : List Value} (h : w.ownsRow B e k v n xs) : w.ownsRow 0 e k v n xs := by
  refine ⟨h.1, h.2.imp id ?_⟩
  rintro ⟨g, cap, cur, e, hb, rest⟩
  exact ⟨g, cap, cur, e, Nat.zero_le _, rest⟩
theorem TapeAt.low {B t a : Nat} {inp : List Nat} {l : List Dd} {iv lv : Value} (h : TapeAt w B t inp a l iv lv) : TapeAt w 0 t inp a l iv lv := ⟨h.obj, owns_low h.inn, owns_low h.out, h.le, Nat.zero_le _, h.small⟩
set_option maxHeartbeats 2000000 in
theorem tcopy_ok {B t a : Nat} {inp : List Nat} {l : List Dd} {iv lv : Value} (w : World) (h : TapeAt w B t inp a l iv lv) (hi : inp.length ≤ 100000) (hl : l.length ≤ 1000000) :
    Calls Tryz.prog 107 #[.pointer (some ⟨t, 0, none⟩)] w fun e w' => ∃ t' iv' lv', e = .returned (.pointer (some ⟨t', 0, none⟩)) ∧ TapeAt w' w.heap.size t' inp a l iv' lv' ∧ Fr no w w' := by
  obtain ⟨ia, ic, rfl⟩ := owns_shape h.inn
  obtain ⟨la, lc, rfl⟩ := owns_shape h.out
  have NN := Lib.hid (none_at w t true _ _ _ h.obj)
  have H := Lib.hid h
  clear h
  go_enter Tryz.func107, Tryz.ntmps107
  go_wp2_with fail
  refine NN.out.mono ?_
  rintro e w' ⟨rfl, rfl⟩
  go_upto_region 3 with (fail)
  have SS : Hid (∀ w', Fr no w w' → (fun w' => w'.cell? ⟨t, 1, none⟩ = some (.slice ia inp.length ic) ∧ w'.cell? ⟨t, 2, none⟩ = some (.int .i64 a) ∧ w'.cell? ⟨t, 3, none⟩ = some (.slice la l.length lc)) w') := Lib.hid (fun w' r => ⟨cell_of_heap (r.heap H.out.obj (by simp)) rfl, cell_of_heap (r.heap H.out.obj (by simp)) rfl, cell_of_heap (r.heap H.out.obj (by simp)) rfl⟩)
  have R1 := Lib.hid (Fr.refl no w).drew
  have S1 := Lib.hid (SS.out _ R1.out)
  have CB := Lib.hid (clone_bytes w.drew _ inp ((owns_reads H.out.inn).fr R1.out (by simp)) (by omega))
  refine Lex.region [4, 13, 15] [17] (by kernel_rfl) (by kernel_rfl) ?_
  refine Lex.opens (fun w' => w'.cell? ⟨t, 1, none⟩ = some (.slice ia inp.length ic) ∧ w'.cell? ⟨t, 2, none⟩ = some (.int .i64 a) ∧ w'.cell? ⟨t, 3, none⟩ = some (.slice la l.length lc)) (S1.out) ?_
  repeat (first
    | (refine Lex.skips (by rfl) ?_; (try simp only [Act.put, List.setIfInBounds_toArray, List.set_cons_zero, List.set_cons_succ]))
    | (refine Lex.quiet (v := ?_) (by rfl) (by rfl) ?_ ?_; rotate_left; (focus (intro w' hS'; go_simp; try rfl)); (try simp only [Act.put, List.setIfInBounds_toArray, List.set_cons_zero, List.set_cons_succ])))
  refine Lex.loud (by rfl) (by rfl) ?_
  intro K' hK'
  go_simp
  refine CB.out.mono ?_
  rintro e w2 ⟨x, rfl, hx, r2⟩
  obtain ⟨xa, xc, rfl⟩ := owns_shape hx
  have R2 := Lib.hid (R1.out.trans r2)
  have S2 := Lib.hid (SS.out _ R2.out)
  have HX2 := Lib.hid hx
  have CD := Lib.hid (clone_deeds w2 _ l ((owns_reads H.out.out).fr R2.out (by simp)) (by omega))
  clear hx r2
  refine hK' _ _ (S2.out) ?_
  clear hK'
  try simp only [Act.put, List.setIfInBounds_toArray, List.set_cons_zero, List.set_cons_succ]
  repeat (first
    | (refine Lex.skips (by rfl) ?_; (try simp only [Act.put, List.setIfInBounds_toArray, List.set_cons_zero, List.set_cons_succ]))
    | (refine Lex.quiet (v := ?_) (by rfl) (by rfl) ?_ ?_; rotate_left; (focus (intro w' hS'; go_simp; try rfl)); (try simp only [Act.put, List.setIfInBounds_toArray, List.set_cons_zero, List.set_cons_succ])))
  refine Lex.loud (by rfl) (by rfl) ?_
  intro K' hK'
  go_simp
  refine CD.out.mono ?_
  rintro e w3 ⟨y, rfl, hy, r3⟩
  obtain ⟨ya, yc, rfl⟩ := owns_shape hy
  have R3 := Lib.hid (R2.out.trans r3)
  have S3 := Lib.hid (SS.out _ R3.out)
  have r4 := (Fr.refl no w3).alloc (.cells #[.bool true, .slice xa inp.length xc, .int .i64 a, .slice ya l.length yc] 181)
  have R4 := Lib.hid (R3.out.trans r4)
  have S4 := Lib.hid (SS.out _ R4.out)
  have HT : Hid (TapeAt (w3.alloc (.cells #[.bool true, .slice xa inp.length xc, .int .i64 a, .slice ya l.length yc] 181)) w.heap.size w3.heap.size inp a l (.slice xa inp.length xc) (.slice ya l.length yc)) :=
    Lib.hid ⟨heap_new w3 _, owns_fr HX2.out (r3.trans r4) (by simp), ⟨hy.1, (owns_fr hy r4 (by simp)).2.imp id (fun ⟨g, cap, cur, e, hb, rest⟩ => ⟨g, cap, cur, e, Nat.le_trans R2.out.size hb, rest⟩)⟩, H.out.le, R3.out.size, H.out.small⟩
  clear hy r3 r4
  refine hK' _ _ (S3.out) ?_
  clear hK'
  try simp only [Act.put, List.setIfInBounds_toArray, List.set_cons_zero, List.set_cons_succ]
  repeat (first
    | (refine Lex.skips (by rfl) ?_; (try simp only [Act.put, List.setIfInBounds_toArray, List.set_cons_zero, List.set_cons_succ]))
    | (refine Lex.quiet (v := ?_) (by rfl) (by rfl) ?_ ?_; rotate_left; (focus (intro w' hS'; go_simp; try rfl)); (try simp only [Act.put, List.setIfInBounds_toArray, List.set_cons_zero, List.set_cons_succ])))
  refine Lex.loud (by rfl) (by rfl) ?_
  intro K' hK'
  go_simp
  refine hK' _ _ (S4.out) ?_
  clear hK'
  try simp only [Act.put, List.setIfInBounds_toArray, List.set_cons_zero, List.set_cons_succ]
  repeat (first
    | (refine Lex.skips (by rfl) ?_; (try simp only [Act.put, List.setIfInBounds_toArray, List.set_cons_zero, List.set_cons_succ]))
    | (refine Lex.quiet (v := ?_) (by rfl) (by rfl) ?_ ?_; rotate_left; (focus (intro w' hS'; go_simp; try rfl)); (try simp only [Act.put, List.setIfInBounds_toArray, List.set_cons_zero, List.set_cons_succ])))
  refine Lex.done ?_
  refine Lex.ends ?_
  go_wp2_with fail
  go_ret
  exact ⟨_, rfl, ⟨_, _, HT.out⟩, R4.out⟩
theorem copy1_ok (w : World) : Calls Tryz.prog 110 #[] w fun e w' => e = .returned (.tuple #[]) ∧ w = w' := by
  go_enter Tryz.func110, Tryz.ntmps110
  go_wp2_with fail
  go_end0
  exact ⟨rfl, rfl⟩
theorem SpAt.copied {w7 : World} {q2 g2 c2 t2 p2 m2 m3 : Nat} {tv2 lv2 kv2 : Value} (h : SpAt w O R p s z) (r : Fr no w w7) (ho : w7.heap[p2]? = some (.cells (spCells s ⟨z.da, z.dc, z.fa, z.fc, z.iv, q2, g2, c2, t2, tv2, lv2, kv2⟩) 94 (0, 0)))
    (hm : MemAt w7 q2 g2 s.b.length c2 s.b) (ht : TapeAt w7 m2 t2 s.inp s.pos s.ds tv2 lv2) (hk : w7.ownsRow m3 121 4 kv2 s.ls.length (linksC s.ls)) (hp : w.heap.size ≤ p2) (hq : w.heap.size ≤ q2) (hg : w.heap.size ≤ g2) (hgm : g2 < m2) (hm2 : w.heap.size ≤ m2) (hm3 : w.heap.size ≤ m3) :
    ∃ O' R' z', SpAt w7 O' R' p2 s z' ∧ (∀ k, O' k → w.heap.size ≤ k) ∧ (∀ k, R' k → R k ∨ w.heap.size ≤ k) := by
  have hbt := ht.bt
  have hO : ∀ k, (k = p2 ∨ k = g2 ∨ k = t2 ∨ lv2.ownBlock = some k ∨ kv2.ownBlock = some k) → w.heap.size ≤ k := fun k hk2 => by
    rcases hk2 with rfl | rfl | rfl | e | e
    · exact hp
    · exact hg
    · omega
    · have := (ht.out.lt k e).1; omega
    · have := (hk.lt k e).1; omega
  obtain ⟨cur, hgb, -⟩ := hm.block
  refine ⟨fun k => k = p2 ∨ k = g2 ∨ k = t2 ∨ lv2.ownBlock = some k ∨ kv2.ownBlock = some k, fun k => R k ∨ k = q2 ∨ tv2.ownBlock = some k, ⟨z.da, z.dc, z.fa, z.fc, z.iv, q2, g2, c2, t2, tv2, lv2, kv2⟩, ⟨ho, hm, ht.low, owns_low hk, (h.ro.fr r (fun k hk _ => by simp)).mono (fun k hk => .inl hk), h.ok, .inl rfl, .inr (.inl rfl), .inr (.inr (.inl rfl)), fun k hk => .inr (.inr (.inr (.inl hk))), fun k hk => .inr (.inr (.inr (.inr hk))), .inr (.inl rfl), fun k hk => .inr (.inr hk), fun k hk2 hr => ?_, fun k hk2 => ?_⟩, hO, fun k hk2 => ?_⟩
  · rcases hr with hr | rfl | hr
    · have := h.lt k (.inr hr)
      have := hO k hk2
      omega
    · rcases hk2 with e | e | e | e | e
      · exact block_ne hm.obj ho (by decide) e
      · exact hm.ne e
      · exact block_ne hm.obj ht.obj (by decide) e
      · exact row_block_ne ht.out hm.obj (by decide) e
      · exact row_block_ne hk hm.obj (by decide) e
    · rcases hk2 with rfl | rfl | rfl | e | e
      · exact row_block_ne ht.inn ho (by decide) hr
      · have := (ht.inn.lt _ hr).1; omega
      · exact row_block_ne ht.inn ht.obj (by decide) hr
      · exact rows_ne ht.inn ht.out (by decide) k hr e
      · exact rows_ne ht.inn hk (by decide) k hr e
  · rcases hk2 with (rfl | rfl | rfl | e | e) | (e | rfl | e)
    · exact (Array.getElem?_eq_some_iff.1 ho).1
    · exact (Array.getElem?_eq_some_iff.1 hgb).1
    · exact (Array.getElem?_eq_some_iff.1 ht.obj).1
    · exact (ht.out.lt k e).2
    · exact (hk.lt k e).2
    · exact Nat.lt_of_lt_of_le (h.lt k (.inr e)) r.size
    · exact (Array.getElem?_eq_some_iff.1 hm.obj).1
    · exact (ht.inn.lt k e).2
  · rcases hk2 with e | rfl | e
    · exact .inl e
    · exact .inr hq
    · have := (ht.inn.lt k e).1; exact .inr (by omega)
set_option maxHeartbeats 4000000 in
theorem scopy_ok (w : World) (h : SpAt w O R p s z) (hl : s.ds.length ≤ 1000000) :
    Calls Tryz.prog 45 #[.pointer (some ⟨p, 0, none⟩)] w fun e w' => ∃ p' O' R' z', e = .returned (.pointer (some ⟨p', 0, none⟩)) ∧ SpAt w' O' R' p' s z' ∧ (∀ k, O' k → w.heap.size ≤ k) ∧ (∀ k, R' k → R k ∨ w.heap.size ≤ k) ∧ Fr no w w' := by
  obtain ⟨ia, ic, hiv⟩ := h.ro.now.2.shape
  obtain ⟨da, dc, fa, fc, iv, qq, gg, cc, tt, tv, lv, kv⟩ := z
  dsimp only at hiv
  subst hiv
  have NN := Lib.hid (snone_ok w h)
  have H := Lib.hid h
  have HLS := Lib.hid h.ok.ll
  have HDS := Lib.hid hl
  clear h hl
  go_enter Tryz.func45, Tryz.ntmps45
  go_wp2_with fail
  refine NN.out.mono ?_
  rintro e w' ⟨rfl, rfl⟩
  go_upto_region 3 with (fail)
  have SS : Hid (∀ w', Fr no w w' → (fun w' => w'.cell? ⟨p, 6, none⟩ = some (.slice ia s.inp.length ic) ∧ w'.cell? ⟨p, 7, none⟩ = some (.int .i64 s.b.length) ∧ w'.cell? ⟨p, 8, none⟩ = some (.pointer (some ⟨qq, 0, none⟩)) ∧ w'.cell? ⟨p, 9, none⟩ = some (.pointer (some ⟨tt, 0, none⟩)) ∧ w'.cell? ⟨p, 11, none⟩ = some (.int .u64 (flr s.m)) ∧ w'.cell? ⟨p, 12, none⟩ = some (.int .u64 s.at_) ∧ w'.cell? ⟨p, 13, none⟩ = some (.int .i64 s.f) ∧ w'.cell? ⟨p, 14, none⟩ = some (.int .i64 s.pc) ∧ w'.cell? ⟨p, 15, none⟩ = some (kv) ∧ At w' p 4 [.slice da s.m.d.length dc, .slice fa s.m.f.length fc] ∧ At w' p 16 [.int .i64 s.e.1, .int .i64 s.e.2]) w') := Lib.hid (fun w' r => by
    have ho := r.heap H.out.obj (by simp)
    exact ⟨cell_of_heap ho rfl, cell_of_heap ho rfl, cell_of_heap ho rfl, cell_of_heap ho rfl, cell_of_heap ho rfl, cell_of_heap ho rfl, cell_of_heap ho rfl, cell_of_heap ho rfl, cell_of_heap ho rfl, at_mid ho (fun j v hj => by
      match j, hj with
      | 0, h => cases h; rfl
      | 1, h => cases h; rfl), at_mid ho (fun j v hj => by
      match j, hj with
      | 0, h => cases h; rfl
      | 1, h => cases h; rfl)⟩)
  have R1 := Lib.hid (Fr.refl no w).drew
  have S1 := Lib.hid (SS.out _ R1.out)
  have HMC := Lib.hid (mcopy_ok w.drew (H.out.mem.fr R1.out) H.out.ok.bl (by have := H.out.ok.al; have := H.out.ok.lo; have := flr_ge s.m; omega))
  refine Lex.region [16, 21, 42, 48] [50] (by kernel_rfl) (by kernel_rfl) ?_
  refine Lex.opens (fun w' => w'.cell? ⟨p, 6, none⟩ = some (.slice ia s.inp.length ic) ∧ w'.cell? ⟨p, 7, none⟩ = some (.int .i64 s.b.length) ∧ w'.cell? ⟨p, 8, none⟩ = some (.pointer (some ⟨qq, 0, none⟩)) ∧ w'.cell? ⟨p, 9, none⟩ = some (.pointer (some ⟨tt, 0, none⟩)) ∧ w'.cell? ⟨p, 11, none⟩ = some (.int .u64 (flr s.m)) ∧ w'.cell? ⟨p, 12, none⟩ = some (.int .u64 s.at_) ∧ w'.cell? ⟨p, 13, none⟩ = some (.int .i64 s.f) ∧ w'.cell? ⟨p, 14, none⟩ = some (.int .i64 s.pc) ∧ w'.cell? ⟨p, 15, none⟩ = some (kv) ∧ At w' p 4 [.slice da s.m.d.length dc, .slice fa s.m.f.length fc] ∧ At w' p 16 [.int .i64 s.e.1, .int .i64 s.e.2]) (S1.out) ?_
  repeat (first
    | (refine Lex.skips (by rfl) ?_; (try simp only [Act.put, List.setIfInBounds_toArray, List.set_cons_zero, List.set_cons_succ]))
    | (refine Lex.into (by rfl) (by rfl) _ _ rfl _ _ rfl _ _ ((fun _ h => h.2.2.2.2.2.2.2.2.2.1)) Tryz.underlying25 rfl (by rw [Tryz.infoMod]; rfl) ?_; (try simp only [Act.put, List.setIfInBounds_toArray, List.set_cons_zero, List.set_cons_succ]))
    | (refine Lex.into (by rfl) (by rfl) _ _ rfl _ _ rfl _ _ ((fun _ h => h.2.2.2.2.2.2.2.2.2.2)) Tryz.underlying43 rfl (by rw [Tryz.infoEnd]; rfl) ?_; (try simp only [Act.put, List.setIfInBounds_toArray, List.set_cons_zero, List.set_cons_succ]))
    | (refine Lex.quiet (v := ?_) (by rfl) (by rfl) ?_ ?_; rotate_left; (focus (intro w' hS'; go_simp; try rfl)); (try simp only [Act.put, List.setIfInBounds_toArray, List.set_cons_zero, List.set_cons_succ])))
  refine Lex.loud (by rfl) (by rfl) ?_
  intro K' hK'
  go_simp
  refine HMC.out.mono ?_
  rintro e w2 ⟨q2, g2, c2, rfl, hm2, hq2, hg2, r2⟩
  have R2 := Lib.hid (R1.out.trans r2)
  have S2 := Lib.hid (SS.out _ R2.out)
  have HM2 := Lib.hid hm2
  have HQ2 : Hid (w.heap.size ≤ q2 ∧ w.heap.size ≤ g2 ∧ g2 < w2.heap.size) := Lib.hid ⟨hq2, hg2, by obtain ⟨cur, hg, -⟩ := hm2.block; exact (Array.getElem?_eq_some_iff.1 hg).1⟩
  have HTC := Lib.hid (tcopy_ok w2 (H.out.fr R2.out).tape H.out.ok.il HDS.out)
  clear hm2 hq2 hg2 r2
  refine hK' _ _ (S2.out) ?_
  clear hK'
  try simp only [Act.put, List.setIfInBounds_toArray, List.set_cons_zero, List.set_cons_succ]
  repeat (first
    | (refine Lex.skips (by rfl) ?_; (try simp only [Act.put, List.setIfInBounds_toArray, List.set_cons_zero, List.set_cons_succ]))
    | (refine Lex.into (by rfl) (by rfl) _ _ rfl _ _ rfl _ _ ((fun _ h => h.2.2.2.2.2.2.2.2.2.1)) Tryz.underlying25 rfl (by rw [Tryz.infoMod]; rfl) ?_; (try simp only [Act.put, List.setIfInBounds_toArray, List.set_cons_zero, List.set_cons_succ]))
    | (refine Lex.into (by rfl) (by rfl) _ _ rfl _ _ rfl _ _ ((fun _ h => h.2.2.2.2.2.2.2.2.2.2)) Tryz.underlying43 rfl (by rw [Tryz.infoEnd]; rfl) ?_; (try simp only [Act.put, List.setIfInBounds_toArray, List.set_cons_zero, List.set_cons_succ]))
    | (refine Lex.quiet (v := ?_) (by rfl) (by rfl) ?_ ?_; rotate_left; (focus (intro w' hS'; go_simp; try rfl)); (try simp only [Act.put, List.setIfInBounds_toArray, List.set_cons_zero, List.set_cons_succ])))
  refine Lex.loud (by rfl) (by rfl) ?_
  intro K' hK'
  go_simp
  refine HTC.out.mono ?_
  rintro e w3 ⟨t2, tv2, lv2, rfl, ht3, r3⟩
  have R3 := Lib.hid (R2.out.trans r3)
  have S3 := Lib.hid (SS.out _ R3.out)
  have HM3 := Lib.hid (HM2.out.fr r3)
  have HT3 := Lib.hid ht3
  have S23 : Hid (w2.heap.size ≤ w3.heap.size) := Lib.hid r3.size
  have HLC := Lib.hid (clone_links w3 _ s.ls.length _ (owns_reads (H.out.fr R3.out).links) (linksC_one s.ls) (by have := HLS.out; omega))
  clear ht3 r3
  refine hK' _ _ (S3.out) ?_
  clear hK'
  try simp only [Act.put, List.setIfInBounds_toArray, List.set_cons_zero, List.set_cons_succ]
  repeat (first
    | (refine Lex.skips (by rfl) ?_; (try simp only [Act.put, List.setIfInBounds_toArray, List.set_cons_zero, List.set_cons_succ]))
    | (refine Lex.into (by rfl) (by rfl) _ _ rfl _ _ rfl _ _ ((fun _ h => h.2.2.2.2.2.2.2.2.2.1)) Tryz.underlying25 rfl (by rw [Tryz.infoMod]; rfl) ?_; (try simp only [Act.put, List.setIfInBounds_toArray, List.set_cons_zero, List.set_cons_succ]))
    | (refine Lex.into (by rfl) (by rfl) _ _ rfl _ _ rfl _ _ ((fun _ h => h.2.2.2.2.2.2.2.2.2.2)) Tryz.underlying43 rfl (by rw [Tryz.infoEnd]; rfl) ?_; (try simp only [Act.put, List.setIfInBounds_toArray, List.set_cons_zero, List.set_cons_succ]))
    | (refine Lex.quiet (v := ?_) (by rfl) (by rfl) ?_ ?_; rotate_left; (focus (intro w' hS'; go_simp; try rfl)); (try simp only [Act.put, List.setIfInBounds_toArray, List.set_cons_zero, List.set_cons_succ])))
  refine Lex.loud (by rfl) (by rfl) ?_
  intro K' hK'
  go_simp
  refine HLC.out.mono ?_
  rintro e w4 ⟨kx, rfl, hk4, r4⟩
  obtain ⟨ka, kc, rfl⟩ := owns_shape hk4
  have R4 := Lib.hid (R3.out.trans r4)
  have S4 := Lib.hid (SS.out _ R4.out)
  have HM4 := Lib.hid (HM3.out.fr r4)
  have HT4 := Lib.hid (HT3.out.frx r4 (by simp) (by simp) (by simp))
  have HK4 := Lib.hid hk4
  have S34 : Hid (w3.heap.size ≤ w4.heap.size) := Lib.hid r4.size
  clear hk4 r4
  refine hK' _ _ (S4.out) ?_
  clear hK'
  try simp only [Act.put, List.setIfInBounds_toArray, List.set_cons_zero, List.set_cons_succ]
  repeat (first
    | (refine Lex.skips (by rfl) ?_; (try simp only [Act.put, List.setIfInBounds_toArray, List.set_cons_zero, List.set_cons_succ]))
    | (refine Lex.into (by rfl) (by rfl) _ _ rfl _ _ rfl _ _ ((fun _ h => h.2.2.2.2.2.2.2.2.2.1)) Tryz.underlying25 rfl (by rw [Tryz.infoMod]; rfl) ?_; (try simp only [Act.put, List.setIfInBounds_toArray, List.set_cons_zero, List.set_cons_succ]))
    | (refine Lex.into (by rfl) (by rfl) _ _ rfl _ _ rfl _ _ ((fun _ h => h.2.2.2.2.2.2.2.2.2.2)) Tryz.underlying43 rfl (by rw [Tryz.infoEnd]; rfl) ?_; (try simp only [Act.put, List.setIfInBounds_toArray, List.set_cons_zero, List.set_cons_succ]))
    | (refine Lex.quiet (v := ?_) (by rfl) (by rfl) ?_ ?_; rotate_left; (focus (intro w' hS'; go_simp; try rfl)); (try simp only [Act.put, List.setIfInBounds_toArray, List.set_cons_zero, List.set_cons_succ])))
  have r5 := (Fr.refl no w4).alloc (.cells #[.int .u32 0, .int .i32 0, .int .u32 0, .int .i64 0, .slice da s.m.d.length dc, .slice fa s.m.f.length fc, .slice ia s.inp.length ic, .int .i64 s.b.length, .pointer (some ⟨q2, 0, none⟩), .pointer (some ⟨t2, 0, none⟩), .int .i64 0, .int .u64 (flr s.m), .int .u64 s.at_, .int .i64 s.f, .int .i64 s.pc, .slice ka s.ls.length kc, .int .i64 s.e.1, .int .i64 s.e.2] 94)
  have HB5 := Lib.hid (heap_new w4 (.cells #[.int .u32 0, .int .i32 0, .int .u32 0, .int .i64 0, .slice da s.m.d.length dc, .slice fa s.m.f.length fc, .slice ia s.inp.length ic, .int .i64 s.b.length, .pointer (some ⟨q2, 0, none⟩), .pointer (some ⟨t2, 0, none⟩), .int .i64 0, .int .u64 (flr s.m), .int .u64 s.at_, .int .i64 s.f, .int .i64 s.pc, .slice ka s.ls.length kc, .int .i64 s.e.1, .int .i64 s.e.2] 94))
  have R5 := Lib.hid (R4.out.trans r5)
  have S5 := Lib.hid (SS.out _ R5.out)
  have HM5 := Lib.hid (HM4.out.fr r5)
  have HT5 := Lib.hid (HT4.out.frx r5 (by simp) (by simp) (by simp))
  have HK5 := Lib.hid (owns_fr HK4.out r5 (by simp))
  clear r5
  refine Lex.loud (by rfl) (by rfl) ?_
  intro K' hK'
  go_simp
  refine hK' _ _ (S5.out) ?_
  clear hK'
  try simp only [Act.put, List.setIfInBounds_toArray, List.set_cons_zero, List.set_cons_succ]
  repeat (first
    | (refine Lex.skips (by rfl) ?_; (try simp only [Act.put, List.setIfInBounds_toArray, List.set_cons_zero, List.set_cons_succ]))
    | (refine Lex.quiet (v := ?_) (by rfl) (by rfl) ?_ ?_; rotate_left; (focus (intro w' hS'; go_simp; try rfl)); (try simp only [Act.put, List.setIfInBounds_toArray, List.set_cons_zero, List.set_cons_succ])))
  refine Lex.done ?_
  refine Lex.ends ?_
  clear S1 S2 S3 S4 S5 HMC HTC HLC
  go_upto_region 4 with (fail)
  have HF0 : Hid ((w4.alloc (.cells #[.int .u32 0, .int .i32 0, .int .u32 0, .int .i64 0, .slice da s.m.d.length dc, .slice fa s.m.f.length fc, .slice ia s.inp.length ic, .int .i64 s.b.length, .pointer (some ⟨q2, 0, none⟩), .pointer (some ⟨t2, 0, none⟩), .int .i64 0, .int .u64 (flr s.m), .int .u64 s.at_, .int .i64 s.f, .int .i64 s.pc, .slice ka s.ls.length kc, .int .i64 s.e.1, .int .i64 s.e.2] 94)).drew.cell? ⟨p, 10, none⟩ = some (.int .i64 s.fuel)) := Lib.hid (cell_of_heap (w := (w4.alloc (.cells #[.int .u32 0, .int .i32 0, .int .u32 0, .int .i64 0, .slice da s.m.d.length dc, .slice fa s.m.f.length fc, .slice ia s.inp.length ic, .int .i64 s.b.length, .pointer (some ⟨q2, 0, none⟩), .pointer (some ⟨t2, 0, none⟩), .int .i64 0, .int .u64 (flr s.m), .int .u64 s.at_, .int .i64 s.f, .int .i64 s.pc, .slice ka s.ls.length kc, .int .i64 s.e.1, .int .i64 s.e.2] 94)).drew) (R5.out.heap H.out.obj (by simp)) rfl)
  have HB6 : Hid ((w4.alloc (.cells #[.int .u32 0, .int .i32 0, .int .u32 0, .int .i64 0, .slice da s.m.d.length dc, .slice fa s.m.f.length fc, .slice ia s.inp.length ic, .int .i64 s.b.length, .pointer (some ⟨q2, 0, none⟩), .pointer (some ⟨t2, 0, none⟩), .int .i64 0, .int .u64 (flr s.m), .int .u64 s.at_, .int .i64 s.f, .int .i64 s.pc, .slice ka s.ls.length kc, .int .i64 s.e.1, .int .i64 s.e.2] 94)).drew.heap[w4.heap.size]? = some (.cells #[.int .u32 0, .int .i32 0, .int .u32 0, .int .i64 0, .slice da s.m.d.length dc, .slice fa s.m.f.length fc, .slice ia s.inp.length ic, .int .i64 s.b.length, .pointer (some ⟨q2, 0, none⟩), .pointer (some ⟨t2, 0, none⟩), .int .i64 0, .int .u64 (flr s.m), .int .u64 s.at_, .int .i64 s.f, .int .i64 s.pc, .slice ka s.ls.length kc, .int .i64 s.e.1, .int .i64 s.e.2] 94 (0, 0))) := Lib.hid HB5.out
  refine Lex.region [6, 7] [8] (by kernel_rfl) (by kernel_rfl) ?_
  refine Lex.opens (fun _ => True) (trivial) ?_
  repeat (first
    | (refine Lex.skips (by rfl) ?_; (try simp only [Act.put, List.setIfInBounds_toArray, List.set_cons_zero, List.set_cons_succ]))
    | (refine Lex.quiet (v := ?_) (by rfl) (by rfl) ?_ ?_; rotate_left; (focus (intro w' hS'; go_simp; try rfl)); (try simp only [Act.put, List.setIfInBounds_toArray, List.set_cons_zero, List.set_cons_succ])))
  refine Lex.loud (by rfl) (by rfl) ?_
  intro K' hK'
  go_simp
  refine (aload_ok _ _ _ HF0.out).mono ?_
  rintro e w' ⟨rfl, rfl⟩
  refine hK' _ _ (trivial) ?_
  clear hK'
  try simp only [Act.put, List.setIfInBounds_toArray, List.set_cons_zero, List.set_cons_succ]
  repeat (first
    | (refine Lex.skips (by rfl) ?_; (try simp only [Act.put, List.setIfInBounds_toArray, List.set_cons_zero, List.set_cons_succ]))
    | (refine Lex.quiet (v := ?_) (by rfl) (by rfl) ?_ ?_; rotate_left; (focus (intro w' hS'; go_simp; try rfl)); (try simp only [Act.put, List.setIfInBounds_toArray, List.set_cons_zero, List.set_cons_succ])))
  refine Lex.loud (by rfl) (by rfl) ?_
  intro K' hK'
  go_simp
  refine (astore_ok _ (.int .i64 0) s.fuel _ (cell_of_heap HB6.out rfl) (frozen_of_heap HB6.out)).mono ?_
  rintro e w6 ⟨rfl, rfl⟩
  refine hK' _ _ (trivial) ?_
  clear hK'
  try simp only [Act.put, List.setIfInBounds_toArray, List.set_cons_zero, List.set_cons_succ]
  refine Lex.done ?_
  refine Lex.ends ?_
  have HB7 := Lib.hid (heap_setCell (o := 10) (v := .int .i64 s.fuel) HB6.out)
  have R67 := Lib.hid ((Fr.refl no (w4.alloc (.cells #[.int .u32 0, .int .i32 0, .int .u32 0, .int .i64 0, .slice da s.m.d.length dc, .slice fa s.m.f.length fc, .slice ia s.inp.length ic, .int .i64 s.b.length, .pointer (some ⟨q2, 0, none⟩), .pointer (some ⟨t2, 0, none⟩), .int .i64 0, .int .u64 (flr s.m), .int .u64 s.at_, .int .i64 s.f, .int .i64 s.pc, .slice ka s.ls.length kc, .int .i64 s.e.1, .int .i64 s.e.2] 94))).drew.to.trans ((Fr.refl (only [w4.heap.size]) (w4.alloc (.cells #[.int .u32 0, .int .i32 0, .int .u32 0, .int .i64 0, .slice da s.m.d.length dc, .slice fa s.m.f.length fc, .slice ia s.inp.length ic, .int .i64 s.b.length, .pointer (some ⟨q2, 0, none⟩), .pointer (some ⟨t2, 0, none⟩), .int .i64 0, .int .u64 (flr s.m), .int .u64 s.at_, .int .i64 s.f, .int .i64 s.pc, .slice ka s.ls.length kc, .int .i64 s.e.1, .int .i64 s.e.2] 94)).drew).setCell ⟨w4.heap.size, 10, none⟩ (.int .i64 s.fuel) (.inl (by simp))))
  generalize (w4.alloc (.cells #[.int .u32 0, .int .i32 0, .int .u32 0, .int .i64 0, .slice da s.m.d.length dc, .slice fa s.m.f.length fc, .slice ia s.inp.length ic, .int .i64 s.b.length, .pointer (some ⟨q2, 0, none⟩), .pointer (some ⟨t2, 0, none⟩), .int .i64 0, .int .u64 (flr s.m), .int .u64 s.at_, .int .i64 s.f, .int .i64 s.pc, .slice ka s.ls.length kc, .int .i64 s.e.1, .int .i64 s.e.2] 94)).drew.setCell ⟨w4.heap.size, 10, none⟩ (.int .i64 s.fuel) = w7 at *
  generalize w4.alloc (.cells #[.int .u32 0, .int .i32 0, .int .u32 0, .int .i64 0, .slice da s.m.d.length dc, .slice fa s.m.f.length fc, .slice ia s.inp.length ic, .int .i64 s.b.length, .pointer (some ⟨q2, 0, none⟩), .pointer (some ⟨t2, 0, none⟩), .int .i64 0, .int .u64 (flr s.m), .int .u64 s.at_, .int .i64 s.f, .int .i64 s.pc, .slice ka s.ls.length kc, .int .i64 s.e.1, .int .i64 s.e.2] 94) = w5 at *
  clear HB6 HF0
  have hb8 := heap_setCell (o := 1) (v := .int .i32 1) HB7.out
  go_wp2_with fail
  refine (do_first w4.heap.size 0 110 #[] (fun w' => w' = w7.setCell ⟨w4.heap.size, 0 + 1, none⟩ (.int .i32 1)) w7 (cell_of_heap HB7.out rfl) (cell_of_heap HB7.out rfl) (frozen_of_heap HB7.out) (fun _ => by rfl) ((copy1_ok _).mono (by
    rintro e w' ⟨rfl, rfl⟩
    exact ⟨rfl, rfl, cell_of_heap hb8 rfl, cell_of_heap hb8 rfl, frozen_of_heap hb8, frozen_of_heap hb8⟩))).mono ?_
  rintro e w' ⟨rfl, w8, rfl, rfl⟩
  have hb9 := heap_setCell (w := ((w7.setCell ⟨w4.heap.size, 0 + 1, none⟩ (.int .i32 1)).drew.setCell ⟨w4.heap.size, 0, none⟩ (.int .u32 1))) (o := 0 + 1) (v := .int .i32 0) (heap_setCell (w := (w7.setCell ⟨w4.heap.size, 0 + 1, none⟩ (.int .i32 1)).drew) (o := 0) (v := .int .u32 1) hb8)
  have r79 : Fr (only [w4.heap.size]) w7 (((w7.setCell ⟨w4.heap.size, 0 + 1, none⟩ (.int .i32 1)).drew.setCell ⟨w4.heap.size, 0, none⟩ (.int .u32 1)).setCell ⟨w4.heap.size, 0 + 1, none⟩ (.int .i32 0)) :=
    (((Fr.refl (only [w4.heap.size]) w7).setCell ⟨w4.heap.size, 0 + 1, none⟩ (.int .i32 1) (.inl (by simp))).drew.setCell ⟨w4.heap.size, 0, none⟩ (.int .u32 1) (.inl (by simp))).setCell ⟨w4.heap.size, 0 + 1, none⟩ (.int .i32 0) (.inl (by simp))
  have HB9 := Lib.hid hb9
  have R59 := Lib.hid (R67.out.trans r79)
  clear hb8 hb9 r79
  generalize ((w7.setCell ⟨w4.heap.size, 0 + 1, none⟩ (.int .i32 1)).drew.setCell ⟨w4.heap.size, 0, none⟩ (.int .u32 1)).setCell ⟨w4.heap.size, 0 + 1, none⟩ (.int .i32 0) = w9 at *
  go_wp2_with fail
  go_ret
  have hq := HQ2.out
  have h23 := S23.out
  have h34 := S34.out
  have hR2 := R2.out.size
  have r9 : Fr no w w9 := R5.out.trans' R59.out (fun k hk hlt => by simp at hk; subst hk; have := R4.out.size; omega)
  obtain ⟨O', R', z', h1, h2, h3⟩ := H.out.copied r9 (p2 := w4.heap.size) (q2 := q2) (g2 := g2) (c2 := c2) (t2 := t2) (tv2 := tv2) (lv2 := lv2) (kv2 := .slice ka s.ls.length kc) (m2 := w2.heap.size) (m3 := w3.heap.size) HB9.out
    (HM5.out.frx R59.out (fun e => block_ne HM5.out.obj HB5.out (by decide) (by simpa using e)) (by have := HQ2.out.2.2; simp; omega))
    (HT5.out.frx R59.out (fun e => block_ne HT5.out.obj HB5.out (by decide) (by simpa using e)) (fun k hk e => by simp at e; subst e; exact row_block_ne HT5.out.inn HB5.out (by decide) hk) (fun k hk e => by simp at e; subst e; exact row_block_ne HT5.out.out HB5.out (by decide) hk))
    (owns_fr HK5.out R59.out (fun k hk e => by simp at e; subst e; exact row_block_ne HK5.out HB5.out (by decide) hk))
    (Nat.le_trans R3.out.size h34) hq.1 hq.2.1 hq.2.2 hR2 (Nat.le_trans hR2 h23)
  exact ⟨_, O', R', z', rfl, h1, h2, h3, r9⟩

end Go.Proofs.YtihnkijeefkefaaGreat

set_option linter.unusedSimpArgs false
set_option linter.unusedVariables false
set_option linter.unusedSectionVars false
set_option linter.unnecessarySimpa false
set_option maxRecDepth 100000
/- Are two spaces the same? -/
namespace Go.Proofs.YtihnkijeefkefaaGreat
open Go.RowKit

attribute [local go_sem] Program.isFuncB Program.isSliceB

variable {w w' w'' w0 w1 : World} {O R O2 R2 X : Nat → Prop} {p q : Nat} {s s' t t' : Zp} {z y : Pz}

theorem addr_add (ad : Addr) (a j : Nat) : (ad.add a).add j = ad.add (a + j) := by
  by_cases ha : a = 0
  · subst ha; simp [Addr.add]
  by_cases hj : j = 0
  · subst hj; simp [Addr.add]
  have h : ¬ a + j = 0 := by omega
  simp only [Addr.add, if_neg ha, if_neg hj, if_neg h, Nat.add_assoc]
theorem reads_len {v : Value} {z n : Nat} {cs : List Value} (h : Reads w v z n cs) : cs.length = n * z := by
  rcases h with ⟨-, rfl, rfl⟩ | ⟨ad, cap, -, -, -, h4, -⟩
  · simp
  · exact h4
theorem u8s_at (l : List Nat) (k : Nat) (h : k < l.length) : ((u8s l).drop (k * 1)).take 1 = [.int .u8 (l[k] : Nat)] := by
  rw [Nat.mul_one]
  have : k < (u8s l).length := by rw [u8s_len]; exact h
  rw [List.drop_eq_getElem_cons this]
  simp [u8s]
theorem linksC_at (l : List Lk) (k : Nat) (h : k < l.length) : ((linksC l).drop (k * 4)).take 4 = [.int .i64 l[k].f, .int .i64 l[k].at_, .int .i64 l[k].back, .int .i64 l[k].res] := by
  have hl : l = l.take k ++ l[k] :: l.drop (k + 1) := by rw [← List.drop_eq_getElem_cons h, List.take_append_drop]
  have hk : (l.take k).length = k := by rw [List.length_take]; omega
  conv => lhs; rw [hl, linksC_app]
  rw [List.drop_left' (by rw [linksC_len, hk])]
  rfl
theorem run_eq4 (w : World) (a b c d a' b' c' d' : Int) : (Op.equalIn 10000 121 (.agg #[.int .i64 a, .int .i64 b, .int .i64 c, .int .i64 d]) (.agg #[.int .i64 a', .int .i64 b', .int .i64 c', .int .i64 d'])).run Tryz.prog w = .ok ((a == a') && ((b == b') && ((c == c') && (d == d')))) w := by
  have hi := infoInt'
  have hc : Tryz.prog.cellsOf 3 = 1 := by kernel_rfl
  rw [show (10000 : Nat) = 9999 + 1 from rfl, run_equalIn_array w 9999 _ _ Tryz.underlying121 hi, hc]
  have hr : List.range 4 = [0, 1, 2, 3] := rfl
  rw [hr]
  simp only [Op.eqItems, Sem.run_bind]
  go_simp
  by_cases h1 : a = a' <;> by_cases h2 : b = b' <;> by_cases h3 : c = c' <;> by_cases h4 : d = d' <;> simp [h1, h2, h3, h4]
def lk4 (x y : Lk) : Bool := ((x.f : Int) == (y.f : Int)) && (((x.at_ : Int) == (y.at_ : Int)) && ((x.back == y.back) && (x.res == y.res)))
theorem lk4_eq (x y : Lk) : lk4 x y = decide (x = y) := by
  obtain ⟨a, b, c, d⟩ := x
  obtain ⟨a', b', c', d'⟩ := y
  rw [Bool.eq_iff_iff, decide_eq_true_eq]
  simp only [lk4, Bool.and_eq_true, beq_iff_eq, Lk.mk.injEq, Int.natCast_inj]
set_option maxHeartbeats 4000000 in
theorem eqlinks_ok (w : World) (u v : Value) (a b : List Lk) (ha : Reads w u 4 a.length (linksC a)) (hb : Reads w v 4 b.length (linksC b)) (hl : a.length ≤ 1000000000) :
    Calls Tryz.prog 92 #[u, v] w fun e w' => e = .returned (.bool (decide (a = b))) ∧ Fr no w w' := by
  obtain ⟨ua, uc, rfl⟩ := ha.shape
  obtain ⟨va, vc, rfl⟩ := hb.shape
  by_cases hab : a.length = b.length
  case neg =>
    have HN : Hid (decide (a = b) = false) := Lib.hid (decide_eq_false (fun e => hab (by rw [e])))
    have e1 : ((a.length : Int) != (b.length : Int)) = true := by rw [bne_iff_ne]; omega
    clear hab ha hb
    go_enter Tryz.func92, Tryz.ntmps92
    go_wp2_with fail
    go_ret
    exact ⟨by rw [HN.out]; rfl, Fr.refl _ _⟩
  have HA := Lib.hid ha
  have HB := Lib.hid hb
  clear ha hb
  generalize hmm : b.length = mm at *
  obtain rfl : mm = a.length := by omega
  have HJL := Lib.hid hmm
  clear hmm hab
  go_enter Tryz.func92, Tryz.ntmps92
  go_wp2_with fail
  go_loopw [13] (fun x wr => ∃ k : Nat, k ≤ a.length ∧ x = .int .i64 k ∧ Hid (a.take k = b.take k) ∧ Hid (Fr no w wr)) (fun x _ => (a.length - intOf x).toNat)
  case atStart => exact ⟨0, by omega, rfl, Lib.hid rfl, Lib.hid (Fr.refl _ _)⟩
  case round =>
    obtain ⟨k, hk, rfl, hpre, hfr⟩ := hrel
    by_cases hks : k < a.length
    · have hks' : (k : Int) < a.length := by omega
      have hkb : k < b.length := by have := HJL.out; omega
      have rd := hfr.out.trans (Fr.refl no wr).drew
      obtain ⟨b1, o1, rfl, h1⟩ := reads_elem (HA.out.fr rd (by simp)) (by decide) hks
      obtain ⟨b2, o2, rfl, h2⟩ := reads_elem (HB.out.fr rd (by simp)) (by decide) hks
      rw [linksC_at a k hks] at h1
      rw [linksC_at b k hkb] at h2
      have HD : Hid (decide (a[k] = b[k]) = decide (a.take (k + 1) = b.take (k + 1))) := Lib.hid (by
        rw [List.take_succ_eq_append_getElem hks, List.take_succ_eq_append_getElem hkb, hpre.out]
        rw [Bool.eq_iff_iff, decide_eq_true_eq, decide_eq_true_eq]
        exact ⟨fun h => by rw [h], fun h => by have := List.append_inj_right' h rfl; injection this⟩)
      have HBD : Hid (decide (a.take (k + 1) = b.take (k + 1)) = false → decide (a = b) = false) := Lib.hid (fun h => decide_eq_false (fun e => by
        have h2 : a.take (k + 1) ≠ b.take (k + 1) := of_decide_eq_false h
        exact h2 (by rw [e])))
      have HTD : Hid (decide (a.take (k + 1) = b.take (k + 1)) = true → a.take (k + 1) = b.take (k + 1)) := Lib.hid (fun h => by simpa using h)
      have A1 := Lib.hid h1
      have A2 := Lib.hid h2
      have R1 := Lib.hid rd
      clear h1 h2 rd
      generalize a[k] = x at *
      generalize b[k] = y at *
      obtain ⟨x1, x2, x3, x4⟩ := x
      obtain ⟨y1, y2, y3, y4⟩ := y
      dsimp only at A1 A2
      rw [← lk4_eq] at HD
      unfold lk4 at HD
      dsimp only at HD
      have hq4 := fun w => run_eq4 w x1 x2 x3 x4 y1 y2 y3 y4
      go_upto_region 6 with (fail)
      cases e1 : ((x1 : Int) == (y1 : Int))
      case false =>
        have e1' : ((x1 : Int) != (y1 : Int)) = true := by rw [bne, e1]; rfl
        have HF := Lib.hid (HBD.out (by rw [← HD.out, e1]; rfl))
        refine Lex.region [] [9] (by kernel_rfl) (by kernel_rfl) ?_
        refine Lex.opens (fun w' => At w' b1 (o1 + k * 4) [.int .i64 x1, .int .i64 x2, .int .i64 x3, .int .i64 x4] ∧ At w' b2 (o2 + k * 4) [.int .i64 y1, .int .i64 y2, .int .i64 y3, .int .i64 y4]) (⟨A1.out, A2.out⟩) ?_
        repeat (first
          | (refine Lex.skips (by rfl) ?_; (try simp only [Act.put, List.setIfInBounds_toArray, List.set_cons_zero, List.set_cons_succ]))
          | (refine Lex.into (by rfl) (by rfl) _ _ rfl _ _ rfl _ _ (fun w' h => h.1) Tryz.underlying121 rfl (by rw [Tryz.infoFour]; rfl) ?_; (try simp only [Act.put, List.setIfInBounds_toArray, List.set_cons_zero, List.set_cons_succ]))
          | (refine Lex.into (by rfl) (by rfl) _ _ rfl _ _ rfl _ _ (fun w' h => h.2) Tryz.underlying121 rfl (by rw [Tryz.infoFour]; rfl) ?_; (try simp only [Act.put, List.setIfInBounds_toArray, List.set_cons_zero, List.set_cons_succ]))
          | (refine Lex.quiet (v := ?_) (by rfl) (by rfl) ?_ ?_; rotate_left; (focus (intro w' hS'; go_simp; try rfl)); (try simp only [Act.put, List.setIfInBounds_toArray, List.set_cons_zero, List.set_cons_succ])))
        refine Lex.done ?_
        refine Lex.ends ?_
        go_wp2_with fail
        go_ret
        exact ⟨by rw [HF.out]; rfl, R1.out⟩
      cases e2 : ((x2 : Int) == (y2 : Int))
      case false =>
        have e2' : ((x2 : Int) != (y2 : Int)) = true := by rw [bne, e2]; rfl
        have HF := Lib.hid (HBD.out (by rw [← HD.out, e1, e2]; rfl))
        refine Lex.region [] [9] (by kernel_rfl) (by kernel_rfl) ?_
        refine Lex.opens (fun w' => At w' b1 (o1 + k * 4) [.int .i64 x1, .int .i64 x2, .int .i64 x3, .int .i64 x4] ∧ At w' b2 (o2 + k * 4) [.int .i64 y1, .int .i64 y2, .int .i64 y3, .int .i64 y4]) (⟨A1.out, A2.out⟩) ?_
        repeat (first
          | (refine Lex.skips (by rfl) ?_; (try simp only [Act.put, List.setIfInBounds_toArray, List.set_cons_zero, List.set_cons_succ]))
          | (refine Lex.into (by rfl) (by rfl) _ _ rfl _ _ rfl _ _ (fun w' h => h.1) Tryz.underlying121 rfl (by rw [Tryz.infoFour]; rfl) ?_; (try simp only [Act.put, List.setIfInBounds_toArray, List.set_cons_zero, List.set_cons_succ]))
          | (refine Lex.into (by rfl) (by rfl) _ _ rfl _ _ rfl _ _ (fun w' h => h.2) Tryz.underlying121 rfl (by rw [Tryz.infoFour]; rfl) ?_; (try simp only [Act.put, List.setIfInBounds_toArray, List.set_cons_zero, List.set_cons_succ]))
          | (refine Lex.quiet (v := ?_) (by rfl) (by rfl) ?_ ?_; rotate_left; (focus (intro w' hS'; go_simp; try rfl)); (try simp only [Act.put, List.setIfInBounds_toArray, List.set_cons_zero, List.set_cons_succ])))
        refine Lex.done ?_
        refine Lex.ends ?_
        go_wp2_with fail
        go_ret
        exact ⟨by rw [HF.out]; rfl, R1.out⟩
      cases e3 : (x3 == y3)
      case false =>
        have e3' : (x3 != y3) = true := by rw [bne, e3]; rfl
        have HF := Lib.hid (HBD.out (by rw [← HD.out, e1, e2, e3]; rfl))
        refine Lex.region [] [9] (by kernel_rfl) (by kernel_rfl) ?_
        refine Lex.opens (fun w' => At w' b1 (o1 + k * 4) [.int .i64 x1, .int .i64 x2, .int .i64 x3, .int .i64 x4] ∧ At w' b2 (o2 + k * 4) [.int .i64 y1, .int .i64 y2, .int .i64 y3, .int .i64 y4]) (⟨A1.out, A2.out⟩) ?_
        repeat (first
          | (refine Lex.skips (by rfl) ?_; (try simp only [Act.put, List.setIfInBounds_toArray, List.set_cons_zero, List.set_cons_succ]))
          | (refine Lex.into (by rfl) (by rfl) _ _ rfl _ _ rfl _ _ (fun w' h => h.1) Tryz.underlying121 rfl (by rw [Tryz.infoFour]; rfl) ?_; (try simp only [Act.put, List.setIfInBounds_toArray, List.set_cons_zero, List.set_cons_succ]))
          | (refine Lex.into (by rfl) (by rfl) _ _ rfl _ _ rfl _ _ (fun w' h => h.2) Tryz.underlying121 rfl (by rw [Tryz.infoFour]; rfl) ?_; (try simp only [Act.put, List.setIfInBounds_toArray, List.set_cons_zero, List.set_cons_succ]))
          | (refine Lex.quiet (v := ?_) (by rfl) (by rfl) ?_ ?_; rotate_left; (focus (intro w' hS'; go_simp; try rfl)); (try simp only [Act.put, List.setIfInBounds_toArray, List.set_cons_zero, List.set_cons_succ])))
        refine Lex.done ?_
        refine Lex.ends ?_
        go_wp2_with fail
        go_ret
        exact ⟨by rw [HF.out]; rfl, R1.out⟩
      cases e4 : (x4 == y4)
      case false =>
        have e4' : (x4 != y4) = true := by rw [bne, e4]; rfl
        have HF := Lib.hid (HBD.out (by rw [← HD.out, e1, e2, e3, e4]; rfl))
        refine Lex.region [] [9] (by kernel_rfl) (by kernel_rfl) ?_
        refine Lex.opens (fun w' => At w' b1 (o1 + k * 4) [.int .i64 x1, .int .i64 x2, .int .i64 x3, .int .i64 x4] ∧ At w' b2 (o2 + k * 4) [.int .i64 y1, .int .i64 y2, .int .i64 y3, .int .i64 y4]) (⟨A1.out, A2.out⟩) ?_
        repeat (first
          | (refine Lex.skips (by rfl) ?_; (try simp only [Act.put, List.setIfInBounds_toArray, List.set_cons_zero, List.set_cons_succ]))
          | (refine Lex.into (by rfl) (by rfl) _ _ rfl _ _ rfl _ _ (fun w' h => h.1) Tryz.underlying121 rfl (by rw [Tryz.infoFour]; rfl) ?_; (try simp only [Act.put, List.setIfInBounds_toArray, List.set_cons_zero, List.set_cons_succ]))
          | (refine Lex.into (by rfl) (by rfl) _ _ rfl _ _ rfl _ _ (fun w' h => h.2) Tryz.underlying121 rfl (by rw [Tryz.infoFour]; rfl) ?_; (try simp only [Act.put, List.setIfInBounds_toArray, List.set_cons_zero, List.set_cons_succ]))
          | (refine Lex.quiet (v := ?_) (by rfl) (by rfl) ?_ ?_; rotate_left; (focus (intro w' hS'; go_simp; try rfl)); (try simp only [Act.put, List.setIfInBounds_toArray, List.set_cons_zero, List.set_cons_succ])))
        refine Lex.done ?_
        refine Lex.ends ?_
        go_wp2_with fail
        go_ret
        exact ⟨by rw [HF.out]; rfl, R1.out⟩
      have HF := Lib.hid (HTD.out (by rw [← HD.out, e1, e2, e3, e4]; rfl))
      refine Lex.region [] [9] (by kernel_rfl) (by kernel_rfl) ?_
      refine Lex.opens (fun w' => At w' b1 (o1 + k * 4) [.int .i64 x1, .int .i64 x2, .int .i64 x3, .int .i64 x4] ∧ At w' b2 (o2 + k * 4) [.int .i64 y1, .int .i64 y2, .int .i64 y3, .int .i64 y4]) (⟨A1.out, A2.out⟩) ?_
      repeat (first
        | (refine Lex.skips (by rfl) ?_; (try simp only [Act.put, List.setIfInBounds_toArray, List.set_cons_zero, List.set_cons_succ]))
        | (refine Lex.into (by rfl) (by rfl) _ _ rfl _ _ rfl _ _ (fun w' h => h.1) Tryz.underlying121 rfl (by rw [Tryz.infoFour]; rfl) ?_; (try simp only [Act.put, List.setIfInBounds_toArray, List.set_cons_zero, List.set_cons_succ]))
        | (refine Lex.into (by rfl) (by rfl) _ _ rfl _ _ rfl _ _ (fun w' h => h.2) Tryz.underlying121 rfl (by rw [Tryz.infoFour]; rfl) ?_; (try simp only [Act.put, List.setIfInBounds_toArray, List.set_cons_zero, List.set_cons_succ]))
        | (refine Lex.quiet (v := ?_) (by rfl) (by rfl) ?_ ?_; rotate_left; (focus (intro w' hS'; go_simp; try rfl)); (try simp only [Act.put, List.setIfInBounds_toArray, List.set_cons_zero, List.set_cons_succ])))
      refine Lex.done ?_
      refine Lex.ends ?_
      go_wp2_with fail
      go_roundw
      case rel => exact ⟨k + 1, by omega, by go_num, HF, R1⟩
      case measure => first | (simp [intOf]; done) | (simp [intOf]; omega)
    · obtain rfl : k = a.length := by omega
      have HF : Hid (decide (a = b) = true) := Lib.hid (by
        have h := hpre.out
        rw [List.take_length, ← HJL.out, List.take_length] at h
        exact decide_eq_true h)
      go_wp2_with fail
      go_ret
      exact ⟨by rw [HF.out]; rfl, hfr.out⟩
set_option maxHeartbeats 4000000 in
theorem eqbytes_ok (w : World) (u v : Value) (a b : List Nat) (ha : Reads w u 1 a.length (u8s a)) (hb : Reads w v 1 b.length (u8s b)) (hl : a.length ≤ 1000000000) :
    Calls Tryz.prog 96 #[u, v] w fun e w' => e = .returned (.bool (decide (a = b))) ∧ Fr no w w' := by
  obtain ⟨ua, uc, rfl⟩ := ha.shape
  obtain ⟨va, vc, rfl⟩ := hb.shape
  by_cases hab : a.length = b.length
  case neg =>
    have HN : Hid (decide (a = b) = false) := Lib.hid (decide_eq_false (fun e => hab (by rw [e])))
    have e1 : ((a.length : Int) != (b.length : Int)) = true := by rw [bne_iff_ne]; omega
    clear hab ha hb
    go_enter Tryz.func96, Tryz.ntmps96
    go_wp2_with fail
    go_ret
    exact ⟨by rw [HN.out]; rfl, Fr.refl _ _⟩
  have HA := Lib.hid ha
  have HB := Lib.hid hb
  clear ha hb
  generalize hmm : b.length = mm at *
  obtain rfl : mm = a.length := by omega
  have HJL := Lib.hid hmm
  clear hmm hab
  go_enter Tryz.func96, Tryz.ntmps96
  go_wp2_with fail
  go_loopw [13] (fun x wr => ∃ k : Nat, k ≤ a.length ∧ x = .int .i64 k ∧ Hid (a.take k = b.take k) ∧ Hid (Fr no w wr)) (fun x _ => (a.length - intOf x).toNat)
  case atStart => exact ⟨0, by omega, rfl, Lib.hid rfl, Lib.hid (Fr.refl _ _)⟩
  case round =>
    obtain ⟨k, hk, rfl, hpre, hfr⟩ := hrel
    by_cases hks : k < a.length
    · have hks' : (k : Int) < a.length := by omega
      have hkb : k < b.length := by have := HJL.out; omega
      have rd := hfr.out.trans (Fr.refl no wr).drew
      obtain ⟨b1, o1, rfl, h1⟩ := reads_elem (HA.out.fr rd (by simp)) (by decide) hks
      obtain ⟨b2, o2, rfl, h2⟩ := reads_elem (HB.out.fr rd (by simp)) (by decide) hks
      rw [u8s_at a k hks] at h1
      rw [u8s_at b k hkb] at h2
      have HD : Hid (decide (a[k] = b[k]) = decide (a.take (k + 1) = b.take (k + 1))) := Lib.hid (by
        rw [List.take_succ_eq_append_getElem hks, List.take_succ_eq_append_getElem hkb, hpre.out]
        rw [Bool.eq_iff_iff, decide_eq_true_eq, decide_eq_true_eq]
        exact ⟨fun h => by rw [h], fun h => by have := List.append_inj_right' h rfl; injection this⟩)
      have HBD : Hid (decide (a.take (k + 1) = b.take (k + 1)) = false → decide (a = b) = false) := Lib.hid (fun h => decide_eq_false (fun e => by
        have h2 : a.take (k + 1) ≠ b.take (k + 1) := of_decide_eq_false h
        exact h2 (by rw [e])))
      have HTD : Hid (decide (a.take (k + 1) = b.take (k + 1)) = true → a.take (k + 1) = b.take (k + 1)) := Lib.hid (fun h => by simpa using h)
      have A1 := Lib.hid h1
      have A2 := Lib.hid h2
      have R1 := Lib.hid rd
      clear h1 h2 rd
      generalize a[k] = x at *
      generalize b[k] = y at *

      go_upto_region 6 with (fail)
      by_cases hxy : x = y
      case neg =>
        have e1 : ((x : Int) != (y : Int)) = true := bne_iff_ne.2 (by omega)
        have HF := Lib.hid (HBD.out (by rw [← HD.out, decide_eq_false hxy]))
        clear hxy
        have S6 : Hid ((fun w' : World => w'.cell? ⟨b1, o1 + k, none⟩ = some (.int .u8 x) ∧ w'.cell? ⟨b2, o2 + k, none⟩ = some (.int .u8 y)) wr.drew) := Lib.hid ⟨by have := A1.out 0 _ rfl; rwa [Nat.mul_one, Nat.add_zero] at this, by have := A2.out 0 _ rfl; rwa [Nat.mul_one, Nat.add_zero] at this⟩
        refine Lex.region [] [9] (by kernel_rfl) (by kernel_rfl) ?_
        refine Lex.opens (fun w' => w'.cell? ⟨b1, o1 + k, none⟩ = some (.int .u8 x) ∧ w'.cell? ⟨b2, o2 + k, none⟩ = some (.int .u8 y)) (S6.out) ?_
        repeat (first
          | (refine Lex.skips (by rfl) ?_; (try simp only [Act.put, List.setIfInBounds_toArray, List.set_cons_zero, List.set_cons_succ]))
          | (refine Lex.quiet (v := ?_) (by rfl) (by rfl) ?_ ?_; rotate_left; (focus (intro w' hS'; go_simp; try rfl)); (try simp only [Act.put, List.setIfInBounds_toArray, List.set_cons_zero, List.set_cons_succ])))
        refine Lex.done ?_
        refine Lex.ends ?_
        go_wp2_with fail
        go_ret
        exact ⟨by rw [HF.out]; rfl, R1.out⟩
      case pos =>
        have e1 : ((x : Int) != (y : Int)) = false := by rw [hxy]; simp
        have HF := Lib.hid (HTD.out (by rw [← HD.out, decide_eq_true hxy]))
        clear hxy
        have S6 : Hid ((fun w' : World => w'.cell? ⟨b1, o1 + k, none⟩ = some (.int .u8 x) ∧ w'.cell? ⟨b2, o2 + k, none⟩ = some (.int .u8 y)) wr.drew) := Lib.hid ⟨by have := A1.out 0 _ rfl; rwa [Nat.mul_one, Nat.add_zero] at this, by have := A2.out 0 _ rfl; rwa [Nat.mul_one, Nat.add_zero] at this⟩
        refine Lex.region [] [9] (by kernel_rfl) (by kernel_rfl) ?_
        refine Lex.opens (fun w' => w'.cell? ⟨b1, o1 + k, none⟩ = some (.int .u8 x) ∧ w'.cell? ⟨b2, o2 + k, none⟩ = some (.int .u8 y)) (S6.out) ?_
        repeat (first
          | (refine Lex.skips (by rfl) ?_; (try simp only [Act.put, List.setIfInBounds_toArray, List.set_cons_zero, List.set_cons_succ]))
          | (refine Lex.quiet (v := ?_) (by rfl) (by rfl) ?_ ?_; rotate_left; (focus (intro w' hS'; go_simp; try rfl)); (try simp only [Act.put, List.setIfInBounds_toArray, List.set_cons_zero, List.set_cons_succ])))
        refine Lex.done ?_
        refine Lex.ends ?_
        go_wp2_with fail
        go_roundw
        case rel => exact ⟨k + 1, by omega, by go_num, HF, R1⟩
        case measure => first | (simp [intOf]; done) | (simp [intOf]; omega)
    · obtain rfl : k = a.length := by omega
      have HF : Hid (decide (a = b) = true) := Lib.hid (by
        have h := hpre.out
        rw [List.take_length, ← HJL.out, List.take_length] at h
        exact decide_eq_true h)
      go_wp2_with fail
      go_ret
      exact ⟨by rw [HF.out]; rfl, hfr.out⟩
theorem tleft_ok {base t a : Nat} {inp : List Nat} {l : List Dd} {iv lv : Value} (w : World) (h : TapeAt w base t inp a l iv lv) (hi : inp.length ≤ 100000) :
    Calls Tryz.prog 153 #[.pointer (some ⟨t, 0, none⟩)] w fun e w' => e = .returned (.int .i64 ((inp.length : Int) - a)) ∧ Fr no w w' := by
  obtain ⟨ia, ic, rfl⟩ := owns_shape h.inn
  have NN := Lib.hid (none_at w t true _ _ _ h.obj)
  have c1 : w.cell? ⟨t, 1, none⟩ = some (.slice ia inp.length ic) := cell_of_heap h.obj rfl
  have c2 : w.cell? ⟨t, 2, none⟩ = some (.int .i64 a) := cell_of_heap h.obj rfl
  have hle := h.le
  have hw : IntKind.i64.wrap ((inp.length : Int) - (a : Int)) = (inp.length : Int) - (a : Int) := by rw [IntKind.wrap_i64]; omega
  clear h
  go_enter Tryz.func153, Tryz.ntmps153
  go_wp2_with fail
  refine NN.out.mono ?_
  rintro e w' ⟨rfl, rfl⟩
  go_wp2_with fail
  go_quiet (fail)
  go_wp2_with fail
  go_ret
  exact ⟨rfl, (Fr.refl _ _).drewN _⟩
theorem reads_from {n c a : Nat} {ia : Option Addr} {l : List Nat} (h : Reads w (.slice ia n c) 1 n (u8s l)) (ha : a ≤ n) : Reads w (.slice (if c = a then ia else ia.map (·.add (a * 1))) (n - a) (c - a)) 1 (n - a) (u8s (l.drop a)) := by
  have hlen : l.length = n := by have := reads_len h; rw [u8s_len] at this; omega
  rcases h with ⟨h, h2, h3⟩ | ⟨ad, cap, h, h2, h3, h4, h5⟩
  · cases h
    obtain rfl : a = 0 := by omega
    have : l = [] := List.length_eq_zero_iff.1 hlen
    subst this
    exact .inl ⟨rfl, rfl, rfl⟩
  · cases h
    by_cases hc : c = a
    · subst hc
      obtain rfl : n = c := by omega
      rw [if_pos rfl, Nat.sub_self]
      refine .inr ⟨ad, 0, rfl, by omega, by unfold maxLen; omega, ?_, fun j u hj => ?_⟩
      · rw [u8s_len, List.length_drop, hlen]; omega
      · rw [List.drop_eq_nil_of_le (by omega)] at hj
        cases hj
    · rw [if_neg hc]
      refine .inr ⟨ad.add (a * 1), c - a, rfl, by omega, by omega, ?_, fun j u hj => ?_⟩
      · rw [u8s_len, List.length_drop, hlen, Nat.mul_one]
      · have hj' : (u8s l)[a + j]? = some u := by
          rw [← List.getElem?_drop]
          unfold u8s at hj ⊢
          rw [← List.map_drop]
          exact hj
        have := h5 (a + j) u hj'
        rw [Nat.mul_one, addr_add]
        exact this
set_option maxHeartbeats 2000000 in
theorem sleft_ok (w : World) (h : SpAt w O R p s z) : Calls Tryz.prog 97 #[.pointer (some ⟨p, 0, none⟩)] w fun e w' => ∃ v, e = .returned v ∧ Reads w' v 1 (s.inp.drop s.pos).length (u8s (s.inp.drop s.pos)) ∧ Fr no w w' := by
  have HRD := Lib.hid h.ro.now.2
  obtain ⟨ia, ic, hiv⟩ := h.ro.now.2.shape
  have hle := h.ok.ip
  have hil := h.ok.il
  have H := Lib.hid h
  obtain ⟨n, hn⟩ : ∃ n, s.inp.length = n := ⟨_, rfl⟩
  obtain ⟨a, ha⟩ : ∃ a, s.pos = a := ⟨_, rfl⟩
  have SS : Hid (∀ w', Fr no w w' → (fun w' => w'.cell? ⟨p, 6, none⟩ = some (.slice ia n ic) ∧ w'.cell? ⟨p, 9, none⟩ = some (.pointer (some ⟨z.t, 0, none⟩))) w') := Lib.hid (fun w' r => by
    have ho := r.heap H.out.obj (by simp)
    exact ⟨by rw [← hn, ← hiv]; exact cell_of_heap ho rfl, cell_of_heap ho rfl⟩)
  have R1 := Lib.hid (Fr.refl no w).drew
  have S1 := Lib.hid (SS.out _ R1.out)
  have HLF := Lib.hid (tleft_ok w.drew (H.out.fr R1.out).tape hil)
  rw [hn, ha] at HLF
  rw [hiv, hn] at HRD
  have hnc := cap_of_reads HRD.out
  rw [hn] at hle hil
  rw [ha] at hle
  have hwr : IntKind.i64.wrap ((n : Int) - ((n : Int) - (a : Int))) = (a : Int) := by rw [IntKind.wrap_i64]; omega
  have hto : ((a : Nat) : Int).toNat = a := rfl
  have HN := Lib.hid hn
  have HA := Lib.hid ha
  clear h hiv hn ha
  by_cases hca : ic = a
  case pos =>
    subst hca
    go_enter Tryz.func97, Tryz.ntmps97
    go_upto_region 1 with (fail)
    refine Lex.region [13] [17] (by kernel_rfl) (by kernel_rfl) ?_
    refine Lex.opens (fun w' => w'.cell? ⟨p, 6, none⟩ = some (.slice ia n ic) ∧ w'.cell? ⟨p, 9, none⟩ = some (.pointer (some ⟨z.t, 0, none⟩))) (S1.out) ?_
    repeat (first
      | (refine Lex.skips (by rfl) ?_; (try simp only [Act.put, List.setIfInBounds_toArray, List.set_cons_zero, List.set_cons_succ]))
      | (refine Lex.quiet (v := ?_) (by rfl) (by rfl) ?_ ?_; rotate_left; (focus (intro w' hS'; go_simp; try rfl)); (try simp only [Act.put, List.setIfInBounds_toArray, List.set_cons_zero, List.set_cons_succ])))
    refine Lex.loud (by rfl) (by rfl) ?_
    intro K' hK'
    go_simp
    refine HLF.out.mono ?_
    rintro e w2 ⟨rfl, r2⟩
    have R2 := Lib.hid (R1.out.trans r2)
    have S2 := Lib.hid (SS.out _ R2.out)
    clear r2
    refine hK' _ _ (S2.out) ?_
    clear hK'
    try simp only [Act.put, List.setIfInBounds_toArray, List.set_cons_zero, List.set_cons_succ]
    repeat (first
      | (refine Lex.skips (by rfl) ?_; (try simp only [Act.put, List.setIfInBounds_toArray, List.set_cons_zero, List.set_cons_succ]))
      | (refine Lex.quiet (v := ?_) (by rfl) (by rfl) ?_ ?_; rotate_left; (focus (intro w' hS'; go_simp; try rfl)); (try simp only [Act.put, List.setIfInBounds_toArray, List.set_cons_zero, List.set_cons_succ])))
    refine Lex.done ?_
    refine Lex.ends ?_
    go_wp2_with fail
    go_ret
    have h := reads_from (HRD.out.fr R2.out (by simp)) hle
    rw [if_pos rfl, Nat.sub_self] at h
    refine ⟨_, rfl, ?_, R2.out⟩
    try rw [List.length_drop]
    have h0 : n - ic = 0 := by omega
    rw [h0] at h
    rw [HN.out, HA.out, h0]
    exact h
  case neg =>
    go_enter Tryz.func97, Tryz.ntmps97
    go_upto_region 1 with (fail)
    refine Lex.region [13] [17] (by kernel_rfl) (by kernel_rfl) ?_
    refine Lex.opens (fun w' => w'.cell? ⟨p, 6, none⟩ = some (.slice ia n ic) ∧ w'.cell? ⟨p, 9, none⟩ = some (.pointer (some ⟨z.t, 0, none⟩))) (S1.out) ?_
    repeat (first
      | (refine Lex.skips (by rfl) ?_; (try simp only [Act.put, List.setIfInBounds_toArray, List.set_cons_zero, List.set_cons_succ]))
      | (refine Lex.quiet (v := ?_) (by rfl) (by rfl) ?_ ?_; rotate_left; (focus (intro w' hS'; go_simp; try rfl)); (try simp only [Act.put, List.setIfInBounds_toArray, List.set_cons_zero, List.set_cons_succ])))
    refine Lex.loud (by rfl) (by rfl) ?_
    intro K' hK'
    go_simp
    refine HLF.out.mono ?_
    rintro e w2 ⟨rfl, r2⟩
    have R2 := Lib.hid (R1.out.trans r2)
    have S2 := Lib.hid (SS.out _ R2.out)
    clear r2
    refine hK' _ _ (S2.out) ?_
    clear hK'
    try simp only [Act.put, List.setIfInBounds_toArray, List.set_cons_zero, List.set_cons_succ]
    repeat (first
      | (refine Lex.skips (by rfl) ?_; (try simp only [Act.put, List.setIfInBounds_toArray, List.set_cons_zero, List.set_cons_succ]))
      | (refine Lex.quiet (v := ?_) (by rfl) (by rfl) ?_ ?_; rotate_left; (focus (intro w' hS'; go_simp; try rfl)); (try simp only [Act.put, List.setIfInBounds_toArray, List.set_cons_zero, List.set_cons_succ])))
    refine Lex.done ?_
    refine Lex.ends ?_
    go_wp2_with fail
    go_ret
    have h := reads_from (HRD.out.fr R2.out (by simp)) hle
    rw [if_neg hca, Nat.mul_one] at h
    refine ⟨_, rfl, ?_, R2.out⟩
    try rw [List.length_drop]
    rw [HN.out, HA.out]
    exact h
def sameS (s t : Zp) : Bool := decide (s.f = t.f) && (decide (s.pc = t.pc) && (decide (s.at_ = t.at_) && (decide (s.fuel = t.fuel) && (decide (s.ls = t.ls) && (decide (s.m = t.m) && (decide (s.b = t.b) && (sameO s.ds t.ds s.e t.e && decide (s.inp.drop s.pos = t.inp.drop t.pos))))))))
set_option maxHeartbeats 8000000 in
theorem ssame_ok (w : World) (h : SpAt w O R p s z) (h2 : SpAt w O2 R2 q t y) (hl : s.ds.length ≤ 100000) (hl2 : t.ds.length ≤ 100000) : Calls Tryz.prog 37 #[.pointer (some ⟨p, 0, none⟩), .pointer (some ⟨q, 0, none⟩)] w fun e w' => e = .returned (.bool (sameS s t)) ∧ Fr no w w' := by
  have H := Lib.hid h
  have K := Lib.hid h2
  have HDS := Lib.hid (And.intro hl hl2)
  have HLL := Lib.hid h.ok.ll
  clear h h2 hl hl2
  go_enter Tryz.func37, Tryz.ntmps37
  go_wp2_with fail
  refine (snone_ok w H.out).mono ?_
  rintro e w' ⟨rfl, rfl⟩
  go_wp2_with fail
  refine (snone_ok w K.out).mono ?_
  rintro e w' ⟨rfl, rfl⟩
  go_upto_region 3 with (fail)
  have SS3 : Hid (∀ w', Fr no w w' → (fun w' => w'.cell? ⟨p, 13, none⟩ = some (.int .i64 s.f) ∧ w'.cell? ⟨p, 14, none⟩ = some (.int .i64 s.pc) ∧ w'.cell? ⟨p, 12, none⟩ = some (.int .u64 s.at_) ∧ w'.cell? ⟨p, 15, none⟩ = some z.kv ∧ w'.cell? ⟨q, 13, none⟩ = some (.int .i64 t.f) ∧ w'.cell? ⟨q, 14, none⟩ = some (.int .i64 t.pc) ∧ w'.cell? ⟨q, 12, none⟩ = some (.int .u64 t.at_) ∧ w'.cell? ⟨q, 15, none⟩ = some y.kv) w') := Lib.hid (fun w' r => by
    have ho := r.heap H.out.obj (by simp)
    have ho2 := r.heap K.out.obj (by simp)
    exact ⟨cell_of_heap ho rfl, cell_of_heap ho rfl, cell_of_heap ho rfl, cell_of_heap ho rfl, cell_of_heap ho2 rfl, cell_of_heap ho2 rfl, cell_of_heap ho2 rfl, cell_of_heap ho2 rfl⟩)
  have SS4 : Hid (∀ w', Fr no w w' → (fun w' => w'.cell? ⟨p, 8, none⟩ = some (.pointer (some ⟨z.q, 0, none⟩)) ∧ At w' p 4 [.slice z.da s.m.d.length z.dc, .slice z.fa s.m.f.length z.fc] ∧ w'.cell? ⟨q, 8, none⟩ = some (.pointer (some ⟨y.q, 0, none⟩)) ∧ At w' q 4 [.slice y.da t.m.d.length y.dc, .slice y.fa t.m.f.length y.fc]) w') := Lib.hid (fun w' r => by
    have ho := r.heap H.out.obj (by simp)
    have ho2 := r.heap K.out.obj (by simp)
    exact ⟨cell_of_heap ho rfl, at_mid ho (fun j v hj => by
        match j, hj with
        | 0, h => cases h; rfl
        | 1, h => cases h; rfl), cell_of_heap ho2 rfl, at_mid ho2 (fun j v hj => by
        match j, hj with
        | 0, h => cases h; rfl
        | 1, h => cases h; rfl)⟩)
  have R3 := Lib.hid (Fr.refl no w).drew
  have S3 := Lib.hid (SS3.out _ R3.out)
  have H3 := Lib.hid (H.out.fr R3.out)
  have K3 := Lib.hid (K.out.fr R3.out)
  by_cases h0 : s.f = t.f
  case neg =>
    have e0 : ((s.f : Int) == (t.f : Int)) = false := beq_eq_false_iff_ne.2 (by omega)
    have HQ : Hid (sameS s t = false) := Lib.hid (by simp [sameS, h0])
    clear h0
    refine Lex.region [33, 35, 47] [50] (by kernel_rfl) (by kernel_rfl) ?_
    refine Lex.opens (fun w' => w'.cell? ⟨p, 13, none⟩ = some (.int .i64 s.f) ∧ w'.cell? ⟨p, 14, none⟩ = some (.int .i64 s.pc) ∧ w'.cell? ⟨p, 12, none⟩ = some (.int .u64 s.at_) ∧ w'.cell? ⟨p, 15, none⟩ = some z.kv ∧ w'.cell? ⟨q, 13, none⟩ = some (.int .i64 t.f) ∧ w'.cell? ⟨q, 14, none⟩ = some (.int .i64 t.pc) ∧ w'.cell? ⟨q, 12, none⟩ = some (.int .u64 t.at_) ∧ w'.cell? ⟨q, 15, none⟩ = some y.kv) (S3.out) ?_
    repeat (first
      | (refine Lex.skips (by rfl) ?_; (try simp only [Act.put, List.setIfInBounds_toArray, List.set_cons_zero, List.set_cons_succ]))
      | (refine Lex.quiet (v := ?_) (by rfl) (by rfl) ?_ ?_; rotate_left; (focus (intro w' hS'; go_simp; try rfl)); (try simp only [Act.put, List.setIfInBounds_toArray, List.set_cons_zero, List.set_cons_succ])))
    have R4 := R3
    refine Lex.done ?_
    refine Lex.ends ?_
    go_wp2_with fail
    go_upto_region 4 with (fail)
    have R5 := Lib.hid (R4.out.trans (Fr.refl no _).drew)
    have S5 := Lib.hid (SS4.out _ R5.out)
    refine Lex.region [10, 21, 25, 27, 28, 32, 34, 35] [38] (by kernel_rfl) (by kernel_rfl) ?_
    refine Lex.opens (fun w' => w'.cell? ⟨p, 8, none⟩ = some (.pointer (some ⟨z.q, 0, none⟩)) ∧ At w' p 4 [.slice z.da s.m.d.length z.dc, .slice z.fa s.m.f.length z.fc] ∧ w'.cell? ⟨q, 8, none⟩ = some (.pointer (some ⟨y.q, 0, none⟩)) ∧ At w' q 4 [.slice y.da t.m.d.length y.dc, .slice y.fa t.m.f.length y.fc]) (S5.out) ?_
    repeat (first
      | (refine Lex.skips (by rfl) ?_; (try simp only [Act.put, List.setIfInBounds_toArray, List.set_cons_zero, List.set_cons_succ]))
      | (refine Lex.quiet (v := ?_) (by rfl) (by rfl) ?_ ?_; rotate_left; (focus (intro w' hS'; go_simp; try rfl)); (try simp only [Act.put, List.setIfInBounds_toArray, List.set_cons_zero, List.set_cons_succ])))
    refine Lex.done ?_
    refine Lex.ends ?_
    go_wp2_with fail
    go_ret
    exact ⟨by rw [HQ.out]; rfl, R5.out⟩
  have e0 : ((s.f : Int) == (t.f : Int)) = true := beq_iff_eq.2 (by omega)
  have G0 := Lib.hid h0
  clear h0
  by_cases h1 : s.pc = t.pc
  case neg =>
    have e1 : (s.pc == t.pc) = false := beq_eq_false_iff_ne.2 (by omega)
    have HQ : Hid (sameS s t = false) := Lib.hid (by simp [sameS, h1])
    clear h1
    refine Lex.region [33, 35, 47] [50] (by kernel_rfl) (by kernel_rfl) ?_
    refine Lex.opens (fun w' => w'.cell? ⟨p, 13, none⟩ = some (.int .i64 s.f) ∧ w'.cell? ⟨p, 14, none⟩ = some (.int .i64 s.pc) ∧ w'.cell? ⟨p, 12, none⟩ = some (.int .u64 s.at_) ∧ w'.cell? ⟨p, 15, none⟩ = some z.kv ∧ w'.cell? ⟨q, 13, none⟩ = some (.int .i64 t.f) ∧ w'.cell? ⟨q, 14, none⟩ = some (.int .i64 t.pc) ∧ w'.cell? ⟨q, 12, none⟩ = some (.int .u64 t.at_) ∧ w'.cell? ⟨q, 15, none⟩ = some y.kv) (S3.out) ?_
    repeat (first
      | (refine Lex.skips (by rfl) ?_; (try simp only [Act.put, List.setIfInBounds_toArray, List.set_cons_zero, List.set_cons_succ]))
      | (refine Lex.quiet (v := ?_) (by rfl) (by rfl) ?_ ?_; rotate_left; (focus (intro w' hS'; go_simp; try rfl)); (try simp only [Act.put, List.setIfInBounds_toArray, List.set_cons_zero, List.set_cons_succ])))
    have R4 := R3
    refine Lex.done ?_
    refine Lex.ends ?_
    go_wp2_with fail
    go_upto_region 4 with (fail)
    have R5 := Lib.hid (R4.out.trans (Fr.refl no _).drew)
    have S5 := Lib.hid (SS4.out _ R5.out)
    refine Lex.region [10, 21, 25, 27, 28, 32, 34, 35] [38] (by kernel_rfl) (by kernel_rfl) ?_
    refine Lex.opens (fun w' => w'.cell? ⟨p, 8, none⟩ = some (.pointer (some ⟨z.q, 0, none⟩)) ∧ At w' p 4 [.slice z.da s.m.d.length z.dc, .slice z.fa s.m.f.length z.fc] ∧ w'.cell? ⟨q, 8, none⟩ = some (.pointer (some ⟨y.q, 0, none⟩)) ∧ At w' q 4 [.slice y.da t.m.d.length y.dc, .slice y.fa t.m.f.length y.fc]) (S5.out) ?_
    repeat (first
      | (refine Lex.skips (by rfl) ?_; (try simp only [Act.put, List.setIfInBounds_toArray, List.set_cons_zero, List.set_cons_succ]))
      | (refine Lex.quiet (v := ?_) (by rfl) (by rfl) ?_ ?_; rotate_left; (focus (intro w' hS'; go_simp; try rfl)); (try simp only [Act.put, List.setIfInBounds_toArray, List.set_cons_zero, List.set_cons_succ])))
    refine Lex.done ?_
    refine Lex.ends ?_
    go_wp2_with fail
    go_ret
    exact ⟨by rw [HQ.out]; rfl, R5.out⟩
  have e1 : (s.pc == t.pc) = true := beq_iff_eq.2 (by omega)
  have G1 := Lib.hid h1
  clear h1
  by_cases h2 : s.at_ = t.at_
  case neg =>
    have e2 : ((s.at_ : Int) == (t.at_ : Int)) = false := beq_eq_false_iff_ne.2 (by omega)
    have HQ : Hid (sameS s t = false) := Lib.hid (by simp [sameS, h2])
    clear h2
    refine Lex.region [33, 35, 47] [50] (by kernel_rfl) (by kernel_rfl) ?_
    refine Lex.opens (fun w' => w'.cell? ⟨p, 13, none⟩ = some (.int .i64 s.f) ∧ w'.cell? ⟨p, 14, none⟩ = some (.int .i64 s.pc) ∧ w'.cell? ⟨p, 12, none⟩ = some (.int .u64 s.at_) ∧ w'.cell? ⟨p, 15, none⟩ = some z.kv ∧ w'.cell? ⟨q, 13, none⟩ = some (.int .i64 t.f) ∧ w'.cell? ⟨q, 14, none⟩ = some (.int .i64 t.pc) ∧ w'.cell? ⟨q, 12, none⟩ = some (.int .u64 t.at_) ∧ w'.cell? ⟨q, 15, none⟩ = some y.kv) (S3.out) ?_
    repeat (first
      | (refine Lex.skips (by rfl) ?_; (try simp only [Act.put, List.setIfInBounds_toArray, List.set_cons_zero, List.set_cons_succ]))
      | (refine Lex.quiet (v := ?_) (by rfl) (by rfl) ?_ ?_; rotate_left; (focus (intro w' hS'; go_simp; try rfl)); (try simp only [Act.put, List.setIfInBounds_toArray, List.set_cons_zero, List.set_cons_succ])))
    have R4 := R3
    refine Lex.done ?_
    refine Lex.ends ?_
    go_wp2_with fail
    go_upto_region 4 with (fail)
    have R5 := Lib.hid (R4.out.trans (Fr.refl no _).drew)
    have S5 := Lib.hid (SS4.out _ R5.out)
    refine Lex.region [10, 21, 25, 27, 28, 32, 34, 35] [38] (by kernel_rfl) (by kernel_rfl) ?_
    refine Lex.opens (fun w' => w'.cell? ⟨p, 8, none⟩ = some (.pointer (some ⟨z.q, 0, none⟩)) ∧ At w' p 4 [.slice z.da s.m.d.length z.dc, .slice z.fa s.m.f.length z.fc] ∧ w'.cell? ⟨q, 8, none⟩ = some (.pointer (some ⟨y.q, 0, none⟩)) ∧ At w' q 4 [.slice y.da t.m.d.length y.dc, .slice y.fa t.m.f.length y.fc]) (S5.out) ?_
    repeat (first
      | (refine Lex.skips (by rfl) ?_; (try simp only [Act.put, List.setIfInBounds_toArray, List.set_cons_zero, List.set_cons_succ]))
      | (refine Lex.quiet (v := ?_) (by rfl) (by rfl) ?_ ?_; rotate_left; (focus (intro w' hS'; go_simp; try rfl)); (try simp only [Act.put, List.setIfInBounds_toArray, List.set_cons_zero, List.set_cons_succ])))
    refine Lex.done ?_
    refine Lex.ends ?_
    go_wp2_with fail
    go_ret
    exact ⟨by rw [HQ.out]; rfl, R5.out⟩
  have e2 : ((s.at_ : Int) == (t.at_ : Int)) = true := beq_iff_eq.2 (by omega)
  have G2 := Lib.hid h2
  clear h2
  by_cases h3 : s.fuel = t.fuel
  case neg =>
    have e3 : (s.fuel == t.fuel) = false := beq_eq_false_iff_ne.2 (by omega)
    have HQ : Hid (sameS s t = false) := Lib.hid (by simp [sameS, h3])
    clear h3
    refine Lex.region [33, 35, 47] [50] (by kernel_rfl) (by kernel_rfl) ?_
    refine Lex.opens (fun w' => w'.cell? ⟨p, 13, none⟩ = some (.int .i64 s.f) ∧ w'.cell? ⟨p, 14, none⟩ = some (.int .i64 s.pc) ∧ w'.cell? ⟨p, 12, none⟩ = some (.int .u64 s.at_) ∧ w'.cell? ⟨p, 15, none⟩ = some z.kv ∧ w'.cell? ⟨q, 13, none⟩ = some (.int .i64 t.f) ∧ w'.cell? ⟨q, 14, none⟩ = some (.int .i64 t.pc) ∧ w'.cell? ⟨q, 12, none⟩ = some (.int .u64 t.at_) ∧ w'.cell? ⟨q, 15, none⟩ = some y.kv) (S3.out) ?_
    repeat (first
      | (refine Lex.skips (by rfl) ?_; (try simp only [Act.put, List.setIfInBounds_toArray, List.set_cons_zero, List.set_cons_succ]))
      | (refine Lex.quiet (v := ?_) (by rfl) (by rfl) ?_ ?_; rotate_left; (focus (intro w' hS'; go_simp; try rfl)); (try simp only [Act.put, List.setIfInBounds_toArray, List.set_cons_zero, List.set_cons_succ])))
    refine Lex.loud (by rfl) (by rfl) ?_
    intro K' hK'
    go_simp
    refine (sfuel_ok _ H3.out).mono ?_
    rintro e w' ⟨rfl, rfl⟩
    refine hK' _ _ (S3.out) ?_
    clear hK'
    try simp only [Act.put, List.setIfInBounds_toArray, List.set_cons_zero, List.set_cons_succ]
    repeat (first
      | (refine Lex.skips (by rfl) ?_; (try simp only [Act.put, List.setIfInBounds_toArray, List.set_cons_zero, List.set_cons_succ]))
      | (refine Lex.quiet (v := ?_) (by rfl) (by rfl) ?_ ?_; rotate_left; (focus (intro w' hS'; go_simp; try rfl)); (try simp only [Act.put, List.setIfInBounds_toArray, List.set_cons_zero, List.set_cons_succ])))
    refine Lex.loud (by rfl) (by rfl) ?_
    intro K' hK'
    go_simp
    refine (sfuel_ok _ K3.out).mono ?_
    rintro e w' ⟨rfl, rfl⟩
    refine hK' _ _ (S3.out) ?_
    clear hK'
    try simp only [Act.put, List.setIfInBounds_toArray, List.set_cons_zero, List.set_cons_succ]
    repeat (first
      | (refine Lex.skips (by rfl) ?_; (try simp only [Act.put, List.setIfInBounds_toArray, List.set_cons_zero, List.set_cons_succ]))
      | (refine Lex.quiet (v := ?_) (by rfl) (by rfl) ?_ ?_; rotate_left; (focus (intro w' hS'; go_simp; try rfl)); (try simp only [Act.put, List.setIfInBounds_toArray, List.set_cons_zero, List.set_cons_succ])))
    have R4 := R3
    refine Lex.done ?_
    refine Lex.ends ?_
    go_wp2_with fail
    go_upto_region 4 with (fail)
    have R5 := Lib.hid (R4.out.trans (Fr.refl no _).drew)
    have S5 := Lib.hid (SS4.out _ R5.out)
    refine Lex.region [10, 21, 25, 27, 28, 32, 34, 35] [38] (by kernel_rfl) (by kernel_rfl) ?_
    refine Lex.opens (fun w' => w'.cell? ⟨p, 8, none⟩ = some (.pointer (some ⟨z.q, 0, none⟩)) ∧ At w' p 4 [.slice z.da s.m.d.length z.dc, .slice z.fa s.m.f.length z.fc] ∧ w'.cell? ⟨q, 8, none⟩ = some (.pointer (some ⟨y.q, 0, none⟩)) ∧ At w' q 4 [.slice y.da t.m.d.length y.dc, .slice y.fa t.m.f.length y.fc]) (S5.out) ?_
    repeat (first
      | (refine Lex.skips (by rfl) ?_; (try simp only [Act.put, List.setIfInBounds_toArray, List.set_cons_zero, List.set_cons_succ]))
      | (refine Lex.quiet (v := ?_) (by rfl) (by rfl) ?_ ?_; rotate_left; (focus (intro w' hS'; go_simp; try rfl)); (try simp only [Act.put, List.setIfInBounds_toArray, List.set_cons_zero, List.set_cons_succ])))
    refine Lex.done ?_
    refine Lex.ends ?_
    go_wp2_with fail
    go_ret
    exact ⟨by rw [HQ.out]; rfl, R5.out⟩
  have e3 : (s.fuel == t.fuel) = true := beq_iff_eq.2 (by omega)
  have G3 := Lib.hid h3
  clear h3
  by_cases h4 : s.ls = t.ls
  case neg =>
    have E4 : Hid (decide (s.ls = t.ls) = false) := Lib.hid (decide_eq_false h4)
    have HQ : Hid (sameS s t = false) := Lib.hid (by simp [sameS, h4])
    clear h4
    refine Lex.region [33, 35, 47] [50] (by kernel_rfl) (by kernel_rfl) ?_
    refine Lex.opens (fun w' => w'.cell? ⟨p, 13, none⟩ = some (.int .i64 s.f) ∧ w'.cell? ⟨p, 14, none⟩ = some (.int .i64 s.pc) ∧ w'.cell? ⟨p, 12, none⟩ = some (.int .u64 s.at_) ∧ w'.cell? ⟨p, 15, none⟩ = some z.kv ∧ w'.cell? ⟨q, 13, none⟩ = some (.int .i64 t.f) ∧ w'.cell? ⟨q, 14, none⟩ = some (.int .i64 t.pc) ∧ w'.cell? ⟨q, 12, none⟩ = some (.int .u64 t.at_) ∧ w'.cell? ⟨q, 15, none⟩ = some y.kv) (S3.out) ?_
    repeat (first
      | (refine Lex.skips (by rfl) ?_; (try simp only [Act.put, List.setIfInBounds_toArray, List.set_cons_zero, List.set_cons_succ]))
      | (refine Lex.quiet (v := ?_) (by rfl) (by rfl) ?_ ?_; rotate_left; (focus (intro w' hS'; go_simp; try rfl)); (try simp only [Act.put, List.setIfInBounds_toArray, List.set_cons_zero, List.set_cons_succ])))
    refine Lex.loud (by rfl) (by rfl) ?_
    intro K' hK'
    go_simp
    refine (sfuel_ok _ H3.out).mono ?_
    rintro e w' ⟨rfl, rfl⟩
    refine hK' _ _ (S3.out) ?_
    clear hK'
    try simp only [Act.put, List.setIfInBounds_toArray, List.set_cons_zero, List.set_cons_succ]
    repeat (first
      | (refine Lex.skips (by rfl) ?_; (try simp only [Act.put, List.setIfInBounds_toArray, List.set_cons_zero, List.set_cons_succ]))
      | (refine Lex.quiet (v := ?_) (by rfl) (by rfl) ?_ ?_; rotate_left; (focus (intro w' hS'; go_simp; try rfl)); (try simp only [Act.put, List.setIfInBounds_toArray, List.set_cons_zero, List.set_cons_succ])))
    refine Lex.loud (by rfl) (by rfl) ?_
    intro K' hK'
    go_simp
    refine (sfuel_ok _ K3.out).mono ?_
    rintro e w' ⟨rfl, rfl⟩
    refine hK' _ _ (S3.out) ?_
    clear hK'
    try simp only [Act.put, List.setIfInBounds_toArray, List.set_cons_zero, List.set_cons_succ]
    repeat (first
      | (refine Lex.skips (by rfl) ?_; (try simp only [Act.put, List.setIfInBounds_toArray, List.set_cons_zero, List.set_cons_succ]))
      | (refine Lex.quiet (v := ?_) (by rfl) (by rfl) ?_ ?_; rotate_left; (focus (intro w' hS'; go_simp; try rfl)); (try simp only [Act.put, List.setIfInBounds_toArray, List.set_cons_zero, List.set_cons_succ])))
    refine Lex.loud (by rfl) (by rfl) ?_
    intro K' hK'
    go_simp
    refine (eqlinks_ok w.drew _ _ s.ls t.ls (owns_reads H3.out.links) (owns_reads K3.out.links) (by have := HLL.out; omega)).mono ?_
    rintro e w4 ⟨rfl, r4⟩
    rw [E4.out]
    have R4 := Lib.hid (R3.out.trans r4)
    have S4 := Lib.hid (SS3.out _ R4.out)
    clear r4
    refine hK' _ _ (S4.out) ?_
    clear hK'
    try simp only [Act.put, List.setIfInBounds_toArray, List.set_cons_zero, List.set_cons_succ]
    repeat (first
      | (refine Lex.skips (by rfl) ?_; (try simp only [Act.put, List.setIfInBounds_toArray, List.set_cons_zero, List.set_cons_succ]))
      | (refine Lex.quiet (v := ?_) (by rfl) (by rfl) ?_ ?_; rotate_left; (focus (intro w' hS'; go_simp; try rfl)); (try simp only [Act.put, List.setIfInBounds_toArray, List.set_cons_zero, List.set_cons_succ])))
    refine Lex.done ?_
    refine Lex.ends ?_
    go_wp2_with fail
    go_upto_region 4 with (fail)
    have R5 := Lib.hid (R4.out.trans (Fr.refl no _).drew)
    have S5 := Lib.hid (SS4.out _ R5.out)
    refine Lex.region [10, 21, 25, 27, 28, 32, 34, 35] [38] (by kernel_rfl) (by kernel_rfl) ?_
    refine Lex.opens (fun w' => w'.cell? ⟨p, 8, none⟩ = some (.pointer (some ⟨z.q, 0, none⟩)) ∧ At w' p 4 [.slice z.da s.m.d.length z.dc, .slice z.fa s.m.f.length z.fc] ∧ w'.cell? ⟨q, 8, none⟩ = some (.pointer (some ⟨y.q, 0, none⟩)) ∧ At w' q 4 [.slice y.da t.m.d.length y.dc, .slice y.fa t.m.f.length y.fc]) (S5.out) ?_
    repeat (first
      | (refine Lex.skips (by rfl) ?_; (try simp only [Act.put, List.setIfInBounds_toArray, List.set_cons_zero, List.set_cons_succ]))
      | (refine Lex.quiet (v := ?_) (by rfl) (by rfl) ?_ ?_; rotate_left; (focus (intro w' hS'; go_simp; try rfl)); (try simp only [Act.put, List.setIfInBounds_toArray, List.set_cons_zero, List.set_cons_succ])))
    refine Lex.done ?_
    refine Lex.ends ?_
    go_wp2_with fail
    go_ret
    exact ⟨by rw [HQ.out]; rfl, R5.out⟩
  have E4 : Hid (decide (s.ls = t.ls) = true) := Lib.hid (decide_eq_true h4)
  clear h4
  by_cases h5 : s.m = t.m
  case neg =>
    have E5 : Hid (decide (s.m = t.m) = false) := Lib.hid (decide_eq_false h5)
    have HQ : Hid (sameS s t = false) := Lib.hid (by simp [sameS, h5])
    clear h5
    refine Lex.region [33, 35, 47] [50] (by kernel_rfl) (by kernel_rfl) ?_
    refine Lex.opens (fun w' => w'.cell? ⟨p, 13, none⟩ = some (.int .i64 s.f) ∧ w'.cell? ⟨p, 14, none⟩ = some (.int .i64 s.pc) ∧ w'.cell? ⟨p, 12, none⟩ = some (.int .u64 s.at_) ∧ w'.cell? ⟨p, 15, none⟩ = some z.kv ∧ w'.cell? ⟨q, 13, none⟩ = some (.int .i64 t.f) ∧ w'.cell? ⟨q, 14, none⟩ = some (.int .i64 t.pc) ∧ w'.cell? ⟨q, 12, none⟩ = some (.int .u64 t.at_) ∧ w'.cell? ⟨q, 15, none⟩ = some y.kv) (S3.out) ?_
    repeat (first
      | (refine Lex.skips (by rfl) ?_; (try simp only [Act.put, List.setIfInBounds_toArray, List.set_cons_zero, List.set_cons_succ]))
      | (refine Lex.quiet (v := ?_) (by rfl) (by rfl) ?_ ?_; rotate_left; (focus (intro w' hS'; go_simp; try rfl)); (try simp only [Act.put, List.setIfInBounds_toArray, List.set_cons_zero, List.set_cons_succ])))
    refine Lex.loud (by rfl) (by rfl) ?_
    intro K' hK'
    go_simp
    refine (sfuel_ok _ H3.out).mono ?_
    rintro e w' ⟨rfl, rfl⟩
    refine hK' _ _ (S3.out) ?_
    clear hK'
    try simp only [Act.put, List.setIfInBounds_toArray, List.set_cons_zero, List.set_cons_succ]
    repeat (first
      | (refine Lex.skips (by rfl) ?_; (try simp only [Act.put, List.setIfInBounds_toArray, List.set_cons_zero, List.set_cons_succ]))
      | (refine Lex.quiet (v := ?_) (by rfl) (by rfl) ?_ ?_; rotate_left; (focus (intro w' hS'; go_simp; try rfl)); (try simp only [Act.put, List.setIfInBounds_toArray, List.set_cons_zero, List.set_cons_succ])))
    refine Lex.loud (by rfl) (by rfl) ?_
    intro K' hK'
    go_simp
    refine (sfuel_ok _ K3.out).mono ?_
    rintro e w' ⟨rfl, rfl⟩
    refine hK' _ _ (S3.out) ?_
    clear hK'
    try simp only [Act.put, List.setIfInBounds_toArray, List.set_cons_zero, List.set_cons_succ]
    repeat (first
      | (refine Lex.skips (by rfl) ?_; (try simp only [Act.put, List.setIfInBounds_toArray, List.set_cons_zero, List.set_cons_succ]))
      | (refine Lex.quiet (v := ?_) (by rfl) (by rfl) ?_ ?_; rotate_left; (focus (intro w' hS'; go_simp; try rfl)); (try simp only [Act.put, List.setIfInBounds_toArray, List.set_cons_zero, List.set_cons_succ])))
    refine Lex.loud (by rfl) (by rfl) ?_
    intro K' hK'
    go_simp
    refine (eqlinks_ok w.drew _ _ s.ls t.ls (owns_reads H3.out.links) (owns_reads K3.out.links) (by have := HLL.out; omega)).mono ?_
    rintro e w4 ⟨rfl, r4⟩
    rw [E4.out]
    have R4 := Lib.hid (R3.out.trans r4)
    have S4 := Lib.hid (SS3.out _ R4.out)
    clear r4
    refine hK' _ _ (S4.out) ?_
    clear hK'
    try simp only [Act.put, List.setIfInBounds_toArray, List.set_cons_zero, List.set_cons_succ]
    repeat (first
      | (refine Lex.skips (by rfl) ?_; (try simp only [Act.put, List.setIfInBounds_toArray, List.set_cons_zero, List.set_cons_succ]))
      | (refine Lex.quiet (v := ?_) (by rfl) (by rfl) ?_ ?_; rotate_left; (focus (intro w' hS'; go_simp; try rfl)); (try simp only [Act.put, List.setIfInBounds_toArray, List.set_cons_zero, List.set_cons_succ])))
    refine Lex.done ?_
    refine Lex.ends ?_
    go_wp2_with fail
    go_upto_region 4 with (fail)
    have R5 := Lib.hid (R4.out.trans (Fr.refl no _).drew)
    have S5 := Lib.hid (SS4.out _ R5.out)
    have H5 := Lib.hid (H.out.fr R5.out)
    have K5 := Lib.hid (K.out.fr R5.out)
    refine Lex.region [10, 21, 25, 27, 28, 32, 34, 35] [38] (by kernel_rfl) (by kernel_rfl) ?_
    refine Lex.opens (fun w' => w'.cell? ⟨p, 8, none⟩ = some (.pointer (some ⟨z.q, 0, none⟩)) ∧ At w' p 4 [.slice z.da s.m.d.length z.dc, .slice z.fa s.m.f.length z.fc] ∧ w'.cell? ⟨q, 8, none⟩ = some (.pointer (some ⟨y.q, 0, none⟩)) ∧ At w' q 4 [.slice y.da t.m.d.length y.dc, .slice y.fa t.m.f.length y.fc]) (S5.out) ?_
    repeat (first
      | (refine Lex.skips (by rfl) ?_; (try simp only [Act.put, List.setIfInBounds_toArray, List.set_cons_zero, List.set_cons_succ]))
      | (refine Lex.into (by rfl) (by rfl) _ _ rfl _ _ rfl _ _ ((fun _ h => h.2.1)) Tryz.underlying25 rfl (by rw [Tryz.infoMod]; rfl) ?_; (try simp only [Act.put, List.setIfInBounds_toArray, List.set_cons_zero, List.set_cons_succ]))
      | (refine Lex.into (by rfl) (by rfl) _ _ rfl _ _ rfl _ _ ((fun _ h => h.2.2.2)) Tryz.underlying25 rfl (by rw [Tryz.infoMod]; rfl) ?_; (try simp only [Act.put, List.setIfInBounds_toArray, List.set_cons_zero, List.set_cons_succ]))
      | (refine Lex.quiet (v := ?_) (by rfl) (by rfl) ?_ ?_; rotate_left; (focus (intro w' hS'; go_simp; try rfl)); (try simp only [Act.put, List.setIfInBounds_toArray, List.set_cons_zero, List.set_cons_succ])))
    refine Lex.loud (by rfl) (by rfl) ?_
    intro K' hK'
    go_simp
    refine (samemod_ok _ s.m t.m z.da z.fa y.da y.fa z.dc z.fc y.dc y.fc H5.out.tabs K5.out.tabs H5.out.ok.sm K5.out.ok.sm).mono ?_
    rintro e w6 ⟨rfl, r6⟩
    rw [E5.out]
    have R6 := Lib.hid (R5.out.trans r6)
    have S6 := Lib.hid (SS4.out _ R6.out)
    clear r6
    refine hK' _ _ (S6.out) ?_
    clear hK'
    try simp only [Act.put, List.setIfInBounds_toArray, List.set_cons_zero, List.set_cons_succ]
    repeat (first
      | (refine Lex.skips (by rfl) ?_; (try simp only [Act.put, List.setIfInBounds_toArray, List.set_cons_zero, List.set_cons_succ]))
      | (refine Lex.into (by rfl) (by rfl) _ _ rfl _ _ rfl _ _ ((fun _ h => h.2.1)) Tryz.underlying25 rfl (by rw [Tryz.infoMod]; rfl) ?_; (try simp only [Act.put, List.setIfInBounds_toArray, List.set_cons_zero, List.set_cons_succ]))
      | (refine Lex.into (by rfl) (by rfl) _ _ rfl _ _ rfl _ _ ((fun _ h => h.2.2.2)) Tryz.underlying25 rfl (by rw [Tryz.infoMod]; rfl) ?_; (try simp only [Act.put, List.setIfInBounds_toArray, List.set_cons_zero, List.set_cons_succ]))
      | (refine Lex.quiet (v := ?_) (by rfl) (by rfl) ?_ ?_; rotate_left; (focus (intro w' hS'; go_simp; try rfl)); (try simp only [Act.put, List.setIfInBounds_toArray, List.set_cons_zero, List.set_cons_succ])))
    refine Lex.done ?_
    refine Lex.ends ?_
    go_wp2_with fail
    go_ret
    exact ⟨by rw [HQ.out]; rfl, R6.out⟩
  have E5 : Hid (decide (s.m = t.m) = true) := Lib.hid (decide_eq_true h5)
  clear h5
  by_cases h6 : s.b = t.b
  case neg =>
    have E6 : Hid (decide (s.b = t.b) = false) := Lib.hid (decide_eq_false h6)
    have HQ : Hid (sameS s t = false) := Lib.hid (by simp [sameS, h6])
    clear h6
    refine Lex.region [33, 35, 47] [50] (by kernel_rfl) (by kernel_rfl) ?_
    refine Lex.opens (fun w' => w'.cell? ⟨p, 13, none⟩ = some (.int .i64 s.f) ∧ w'.cell? ⟨p, 14, none⟩ = some (.int .i64 s.pc) ∧ w'.cell? ⟨p, 12, none⟩ = some (.int .u64 s.at_) ∧ w'.cell? ⟨p, 15, none⟩ = some z.kv ∧ w'.cell? ⟨q, 13, none⟩ = some (.int .i64 t.f) ∧ w'.cell? ⟨q, 14, none⟩ = some (.int .i64 t.pc) ∧ w'.cell? ⟨q, 12, none⟩ = some (.int .u64 t.at_) ∧ w'.cell? ⟨q, 15, none⟩ = some y.kv) (S3.out) ?_
    repeat (first
      | (refine Lex.skips (by rfl) ?_; (try simp only [Act.put, List.setIfInBounds_toArray, List.set_cons_zero, List.set_cons_succ]))
      | (refine Lex.quiet (v := ?_) (by rfl) (by rfl) ?_ ?_; rotate_left; (focus (intro w' hS'; go_simp; try rfl)); (try simp only [Act.put, List.setIfInBounds_toArray, List.set_cons_zero, List.set_cons_succ])))
    refine Lex.loud (by rfl) (by rfl) ?_
    intro K' hK'
    go_simp
    refine (sfuel_ok _ H3.out).mono ?_
    rintro e w' ⟨rfl, rfl⟩
    refine hK' _ _ (S3.out) ?_
    clear hK'
    try simp only [Act.put, List.setIfInBounds_toArray, List.set_cons_zero, List.set_cons_succ]
    repeat (first
      | (refine Lex.skips (by rfl) ?_; (try simp only [Act.put, List.setIfInBounds_toArray, List.set_cons_zero, List.set_cons_succ]))
      | (refine Lex.quiet (v := ?_) (by rfl) (by rfl) ?_ ?_; rotate_left; (focus (intro w' hS'; go_simp; try rfl)); (try simp only [Act.put, List.setIfInBounds_toArray, List.set_cons_zero, List.set_cons_succ])))
    refine Lex.loud (by rfl) (by rfl) ?_
    intro K' hK'
    go_simp
    refine (sfuel_ok _ K3.out).mono ?_
    rintro e w' ⟨rfl, rfl⟩
    refine hK' _ _ (S3.out) ?_
    clear hK'
    try simp only [Act.put, List.setIfInBounds_toArray, List.set_cons_zero, List.set_cons_succ]
    repeat (first
      | (refine Lex.skips (by rfl) ?_; (try simp only [Act.put, List.setIfInBounds_toArray, List.set_cons_zero, List.set_cons_succ]))
      | (refine Lex.quiet (v := ?_) (by rfl) (by rfl) ?_ ?_; rotate_left; (focus (intro w' hS'; go_simp; try rfl)); (try simp only [Act.put, List.setIfInBounds_toArray, List.set_cons_zero, List.set_cons_succ])))
    refine Lex.loud (by rfl) (by rfl) ?_
    intro K' hK'
    go_simp
    refine (eqlinks_ok w.drew _ _ s.ls t.ls (owns_reads H3.out.links) (owns_reads K3.out.links) (by have := HLL.out; omega)).mono ?_
    rintro e w4 ⟨rfl, r4⟩
    rw [E4.out]
    have R4 := Lib.hid (R3.out.trans r4)
    have S4 := Lib.hid (SS3.out _ R4.out)
    clear r4
    refine hK' _ _ (S4.out) ?_
    clear hK'
    try simp only [Act.put, List.setIfInBounds_toArray, List.set_cons_zero, List.set_cons_succ]
    repeat (first
      | (refine Lex.skips (by rfl) ?_; (try simp only [Act.put, List.setIfInBounds_toArray, List.set_cons_zero, List.set_cons_succ]))
      | (refine Lex.quiet (v := ?_) (by rfl) (by rfl) ?_ ?_; rotate_left; (focus (intro w' hS'; go_simp; try rfl)); (try simp only [Act.put, List.setIfInBounds_toArray, List.set_cons_zero, List.set_cons_succ])))
    refine Lex.done ?_
    refine Lex.ends ?_
    go_wp2_with fail
    go_upto_region 4 with (fail)
    have R5 := Lib.hid (R4.out.trans (Fr.refl no _).drew)
    have S5 := Lib.hid (SS4.out _ R5.out)
    have H5 := Lib.hid (H.out.fr R5.out)
    have K5 := Lib.hid (K.out.fr R5.out)
    refine Lex.region [10, 21, 25, 27, 28, 32, 34, 35] [38] (by kernel_rfl) (by kernel_rfl) ?_
    refine Lex.opens (fun w' => w'.cell? ⟨p, 8, none⟩ = some (.pointer (some ⟨z.q, 0, none⟩)) ∧ At w' p 4 [.slice z.da s.m.d.length z.dc, .slice z.fa s.m.f.length z.fc] ∧ w'.cell? ⟨q, 8, none⟩ = some (.pointer (some ⟨y.q, 0, none⟩)) ∧ At w' q 4 [.slice y.da t.m.d.length y.dc, .slice y.fa t.m.f.length y.fc]) (S5.out) ?_
    repeat (first
      | (refine Lex.skips (by rfl) ?_; (try simp only [Act.put, List.setIfInBounds_toArray, List.set_cons_zero, List.set_cons_succ]))
      | (refine Lex.into (by rfl) (by rfl) _ _ rfl _ _ rfl _ _ ((fun _ h => h.2.1)) Tryz.underlying25 rfl (by rw [Tryz.infoMod]; rfl) ?_; (try simp only [Act.put, List.setIfInBounds_toArray, List.set_cons_zero, List.set_cons_succ]))
      | (refine Lex.into (by rfl) (by rfl) _ _ rfl _ _ rfl _ _ ((fun _ h => h.2.2.2)) Tryz.underlying25 rfl (by rw [Tryz.infoMod]; rfl) ?_; (try simp only [Act.put, List.setIfInBounds_toArray, List.set_cons_zero, List.set_cons_succ]))
      | (refine Lex.quiet (v := ?_) (by rfl) (by rfl) ?_ ?_; rotate_left; (focus (intro w' hS'; go_simp; try rfl)); (try simp only [Act.put, List.setIfInBounds_toArray, List.set_cons_zero, List.set_cons_succ])))
    refine Lex.loud (by rfl) (by rfl) ?_
    intro K' hK'
    go_simp
    refine (samemod_ok _ s.m t.m z.da z.fa y.da y.fa z.dc z.fc y.dc y.fc H5.out.tabs K5.out.tabs H5.out.ok.sm K5.out.ok.sm).mono ?_
    rintro e w6 ⟨rfl, r6⟩
    rw [E5.out]
    have R6 := Lib.hid (R5.out.trans r6)
    have S6 := Lib.hid (SS4.out _ R6.out)
    clear r6
    refine hK' _ _ (S6.out) ?_
    clear hK'
    try simp only [Act.put, List.setIfInBounds_toArray, List.set_cons_zero, List.set_cons_succ]
    repeat (first
      | (refine Lex.skips (by rfl) ?_; (try simp only [Act.put, List.setIfInBounds_toArray, List.set_cons_zero, List.set_cons_succ]))
      | (refine Lex.into (by rfl) (by rfl) _ _ rfl _ _ rfl _ _ ((fun _ h => h.2.1)) Tryz.underlying25 rfl (by rw [Tryz.infoMod]; rfl) ?_; (try simp only [Act.put, List.setIfInBounds_toArray, List.set_cons_zero, List.set_cons_succ]))
      | (refine Lex.into (by rfl) (by rfl) _ _ rfl _ _ rfl _ _ ((fun _ h => h.2.2.2)) Tryz.underlying25 rfl (by rw [Tryz.infoMod]; rfl) ?_; (try simp only [Act.put, List.setIfInBounds_toArray, List.set_cons_zero, List.set_cons_succ]))
      | (refine Lex.quiet (v := ?_) (by rfl) (by rfl) ?_ ?_; rotate_left; (focus (intro w' hS'; go_simp; try rfl)); (try simp only [Act.put, List.setIfInBounds_toArray, List.set_cons_zero, List.set_cons_succ])))
    refine Lex.loud (by rfl) (by rfl) ?_
    intro K' hK'
    go_simp
    refine (msame_ok _ (H.out.fr R6.out).mem (K.out.fr R6.out).mem).mono ?_
    rintro e w7 ⟨rfl, r7⟩
    rw [E6.out]
    have R7 := Lib.hid (R6.out.trans r7)
    have S7 := Lib.hid (SS4.out _ R7.out)
    clear r7
    refine hK' _ _ (S7.out) ?_
    clear hK'
    try simp only [Act.put, List.setIfInBounds_toArray, List.set_cons_zero, List.set_cons_succ]
    repeat (first
      | (refine Lex.skips (by rfl) ?_; (try simp only [Act.put, List.setIfInBounds_toArray, List.set_cons_zero, List.set_cons_succ]))
      | (refine Lex.into (by rfl) (by rfl) _ _ rfl _ _ rfl _ _ ((fun _ h => h.2.1)) Tryz.underlying25 rfl (by rw [Tryz.infoMod]; rfl) ?_; (try simp only [Act.put, List.setIfInBounds_toArray, List.set_cons_zero, List.set_cons_succ]))
      | (refine Lex.into (by rfl) (by rfl) _ _ rfl _ _ rfl _ _ ((fun _ h => h.2.2.2)) Tryz.underlying25 rfl (by rw [Tryz.infoMod]; rfl) ?_; (try simp only [Act.put, List.setIfInBounds_toArray, List.set_cons_zero, List.set_cons_succ]))
      | (refine Lex.quiet (v := ?_) (by rfl) (by rfl) ?_ ?_; rotate_left; (focus (intro w' hS'; go_simp; try rfl)); (try simp only [Act.put, List.setIfInBounds_toArray, List.set_cons_zero, List.set_cons_succ])))
    refine Lex.done ?_
    refine Lex.ends ?_
    go_wp2_with fail
    go_ret
    exact ⟨by rw [HQ.out]; rfl, R7.out⟩
  have E6 : Hid (decide (s.b = t.b) = true) := Lib.hid (decide_eq_true h6)
  clear h6
  cases h7 : sameO s.ds t.ds s.e t.e
  case false =>
    have E7 : Hid (sameO s.ds t.ds (s.e.1, s.e.2) (t.e.1, t.e.2) = false) := Lib.hid h7
    have HQ : Hid (sameS s t = false) := Lib.hid (by simp [sameS, h7])
    clear h7
    refine Lex.region [33, 35, 47] [50] (by kernel_rfl) (by kernel_rfl) ?_
    refine Lex.opens (fun w' => w'.cell? ⟨p, 13, none⟩ = some (.int .i64 s.f) ∧ w'.cell? ⟨p, 14, none⟩ = some (.int .i64 s.pc) ∧ w'.cell? ⟨p, 12, none⟩ = some (.int .u64 s.at_) ∧ w'.cell? ⟨p, 15, none⟩ = some z.kv ∧ w'.cell? ⟨q, 13, none⟩ = some (.int .i64 t.f) ∧ w'.cell? ⟨q, 14, none⟩ = some (.int .i64 t.pc) ∧ w'.cell? ⟨q, 12, none⟩ = some (.int .u64 t.at_) ∧ w'.cell? ⟨q, 15, none⟩ = some y.kv) (S3.out) ?_
    repeat (first
      | (refine Lex.skips (by rfl) ?_; (try simp only [Act.put, List.setIfInBounds_toArray, List.set_cons_zero, List.set_cons_succ]))
      | (refine Lex.quiet (v := ?_) (by rfl) (by rfl) ?_ ?_; rotate_left; (focus (intro w' hS'; go_simp; try rfl)); (try simp only [Act.put, List.setIfInBounds_toArray, List.set_cons_zero, List.set_cons_succ])))
    refine Lex.loud (by rfl) (by rfl) ?_
    intro K' hK'
    go_simp
    refine (sfuel_ok _ H3.out).mono ?_
    rintro e w' ⟨rfl, rfl⟩
    refine hK' _ _ (S3.out) ?_
    clear hK'
    try simp only [Act.put, List.setIfInBounds_toArray, List.set_cons_zero, List.set_cons_succ]
    repeat (first
      | (refine Lex.skips (by rfl) ?_; (try simp only [Act.put, List.setIfInBounds_toArray, List.set_cons_zero, List.set_cons_succ]))
      | (refine Lex.quiet (v := ?_) (by rfl) (by rfl) ?_ ?_; rotate_left; (focus (intro w' hS'; go_simp; try rfl)); (try simp only [Act.put, List.setIfInBounds_toArray, List.set_cons_zero, List.set_cons_succ])))
    refine Lex.loud (by rfl) (by rfl) ?_
    intro K' hK'
    go_simp
    refine (sfuel_ok _ K3.out).mono ?_
    rintro e w' ⟨rfl, rfl⟩
    refine hK' _ _ (S3.out) ?_
    clear hK'
    try simp only [Act.put, List.setIfInBounds_toArray, List.set_cons_zero, List.set_cons_succ]
    repeat (first
      | (refine Lex.skips (by rfl) ?_; (try simp only [Act.put, List.setIfInBounds_toArray, List.set_cons_zero, List.set_cons_succ]))
      | (refine Lex.quiet (v := ?_) (by rfl) (by rfl) ?_ ?_; rotate_left; (focus (intro w' hS'; go_simp; try rfl)); (try simp only [Act.put, List.setIfInBounds_toArray, List.set_cons_zero, List.set_cons_succ])))
    refine Lex.loud (by rfl) (by rfl) ?_
    intro K' hK'
    go_simp
    refine (eqlinks_ok w.drew _ _ s.ls t.ls (owns_reads H3.out.links) (owns_reads K3.out.links) (by have := HLL.out; omega)).mono ?_
    rintro e w4 ⟨rfl, r4⟩
    rw [E4.out]
    have R4 := Lib.hid (R3.out.trans r4)
    have S4 := Lib.hid (SS3.out _ R4.out)
    clear r4
    refine hK' _ _ (S4.out) ?_
    clear hK'
    try simp only [Act.put, List.setIfInBounds_toArray, List.set_cons_zero, List.set_cons_succ]
    repeat (first
      | (refine Lex.skips (by rfl) ?_; (try simp only [Act.put, List.setIfInBounds_toArray, List.set_cons_zero, List.set_cons_succ]))
      | (refine Lex.quiet (v := ?_) (by rfl) (by rfl) ?_ ?_; rotate_left; (focus (intro w' hS'; go_simp; try rfl)); (try simp only [Act.put, List.setIfInBounds_toArray, List.set_cons_zero, List.set_cons_succ])))
    refine Lex.done ?_
    refine Lex.ends ?_
    go_wp2_with fail
    go_upto_region 4 with (fail)
    have R5 := Lib.hid (R4.out.trans (Fr.refl no _).drew)
    have S5 := Lib.hid (SS4.out _ R5.out)
    have H5 := Lib.hid (H.out.fr R5.out)
    have K5 := Lib.hid (K.out.fr R5.out)
    refine Lex.region [10, 21, 25, 27, 28, 32, 34, 35] [38] (by kernel_rfl) (by kernel_rfl) ?_
    refine Lex.opens (fun w' => w'.cell? ⟨p, 8, none⟩ = some (.pointer (some ⟨z.q, 0, none⟩)) ∧ At w' p 4 [.slice z.da s.m.d.length z.dc, .slice z.fa s.m.f.length z.fc] ∧ w'.cell? ⟨q, 8, none⟩ = some (.pointer (some ⟨y.q, 0, none⟩)) ∧ At w' q 4 [.slice y.da t.m.d.length y.dc, .slice y.fa t.m.f.length y.fc]) (S5.out) ?_
    repeat (first
      | (refine Lex.skips (by rfl) ?_; (try simp only [Act.put, List.setIfInBounds_toArray, List.set_cons_zero, List.set_cons_succ]))
      | (refine Lex.into (by rfl) (by rfl) _ _ rfl _ _ rfl _ _ ((fun _ h => h.2.1)) Tryz.underlying25 rfl (by rw [Tryz.infoMod]; rfl) ?_; (try simp only [Act.put, List.setIfInBounds_toArray, List.set_cons_zero, List.set_cons_succ]))
      | (refine Lex.into (by rfl) (by rfl) _ _ rfl _ _ rfl _ _ ((fun _ h => h.2.2.2)) Tryz.underlying25 rfl (by rw [Tryz.infoMod]; rfl) ?_; (try simp only [Act.put, List.setIfInBounds_toArray, List.set_cons_zero, List.set_cons_succ]))
      | (refine Lex.quiet (v := ?_) (by rfl) (by rfl) ?_ ?_; rotate_left; (focus (intro w' hS'; go_simp; try rfl)); (try simp only [Act.put, List.setIfInBounds_toArray, List.set_cons_zero, List.set_cons_succ])))
    refine Lex.loud (by rfl) (by rfl) ?_
    intro K' hK'
    go_simp
    refine (samemod_ok _ s.m t.m z.da z.fa y.da y.fa z.dc z.fc y.dc y.fc H5.out.tabs K5.out.tabs H5.out.ok.sm K5.out.ok.sm).mono ?_
    rintro e w6 ⟨rfl, r6⟩
    rw [E5.out]
    have R6 := Lib.hid (R5.out.trans r6)
    have S6 := Lib.hid (SS4.out _ R6.out)
    clear r6
    refine hK' _ _ (S6.out) ?_
    clear hK'
    try simp only [Act.put, List.setIfInBounds_toArray, List.set_cons_zero, List.set_cons_succ]
    repeat (first
      | (refine Lex.skips (by rfl) ?_; (try simp only [Act.put, List.setIfInBounds_toArray, List.set_cons_zero, List.set_cons_succ]))
      | (refine Lex.into (by rfl) (by rfl) _ _ rfl _ _ rfl _ _ ((fun _ h => h.2.1)) Tryz.underlying25 rfl (by rw [Tryz.infoMod]; rfl) ?_; (try simp only [Act.put, List.setIfInBounds_toArray, List.set_cons_zero, List.set_cons_succ]))
      | (refine Lex.into (by rfl) (by rfl) _ _ rfl _ _ rfl _ _ ((fun _ h => h.2.2.2)) Tryz.underlying25 rfl (by rw [Tryz.infoMod]; rfl) ?_; (try simp only [Act.put, List.setIfInBounds_toArray, List.set_cons_zero, List.set_cons_succ]))
      | (refine Lex.quiet (v := ?_) (by rfl) (by rfl) ?_ ?_; rotate_left; (focus (intro w' hS'; go_simp; try rfl)); (try simp only [Act.put, List.setIfInBounds_toArray, List.set_cons_zero, List.set_cons_succ])))
    refine Lex.loud (by rfl) (by rfl) ?_
    intro K' hK'
    go_simp
    refine (msame_ok _ (H.out.fr R6.out).mem (K.out.fr R6.out).mem).mono ?_
    rintro e w7 ⟨rfl, r7⟩
    rw [E6.out]
    have R7 := Lib.hid (R6.out.trans r7)
    have S7 := Lib.hid (SS4.out _ R7.out)
    clear r7
    refine hK' _ _ (S7.out) ?_
    clear hK'
    try simp only [Act.put, List.setIfInBounds_toArray, List.set_cons_zero, List.set_cons_succ]
    repeat (first
      | (refine Lex.skips (by rfl) ?_; (try simp only [Act.put, List.setIfInBounds_toArray, List.set_cons_zero, List.set_cons_succ]))
      | (refine Lex.into (by rfl) (by rfl) _ _ rfl _ _ rfl _ _ ((fun _ h => h.2.1)) Tryz.underlying25 rfl (by rw [Tryz.infoMod]; rfl) ?_; (try simp only [Act.put, List.setIfInBounds_toArray, List.set_cons_zero, List.set_cons_succ]))
      | (refine Lex.into (by rfl) (by rfl) _ _ rfl _ _ rfl _ _ ((fun _ h => h.2.2.2)) Tryz.underlying25 rfl (by rw [Tryz.infoMod]; rfl) ?_; (try simp only [Act.put, List.setIfInBounds_toArray, List.set_cons_zero, List.set_cons_succ]))
      | (refine Lex.quiet (v := ?_) (by rfl) (by rfl) ?_ ?_; rotate_left; (focus (intro w' hS'; go_simp; try rfl)); (try simp only [Act.put, List.setIfInBounds_toArray, List.set_cons_zero, List.set_cons_succ])))
    refine Lex.loud (by rfl) (by rfl) ?_
    intro K' hK'
    go_simp
    refine (sout_ok _ (H.out.fr R7.out) (by have := HDS.out.1; omega)).mono ?_
    rintro e w8 ⟨x1, rfl, hx1, r8⟩
    have R8 := Lib.hid (R7.out.trans r8)
    have S8 := Lib.hid (SS4.out _ R8.out)
    have HX1 := Lib.hid (owns_reads hx1)
    clear hx1 r8
    refine hK' _ _ (S8.out) ?_
    clear hK'
    try simp only [Act.put, List.setIfInBounds_toArray, List.set_cons_zero, List.set_cons_succ]
    repeat (first
      | (refine Lex.skips (by rfl) ?_; (try simp only [Act.put, List.setIfInBounds_toArray, List.set_cons_zero, List.set_cons_succ]))
      | (refine Lex.quiet (v := ?_) (by rfl) (by rfl) ?_ ?_; rotate_left; (focus (intro w' hS'; go_simp; try rfl)); (try simp only [Act.put, List.setIfInBounds_toArray, List.set_cons_zero, List.set_cons_succ])))
    refine Lex.loud (by rfl) (by rfl) ?_
    intro K' hK'
    go_simp
    refine (sout_ok _ (K.out.fr R8.out) (by have := HDS.out.2; omega)).mono ?_
    rintro e w9 ⟨x2, rfl, hx2, r9⟩
    have R9 := Lib.hid (R8.out.trans r9)
    have S9 := Lib.hid (SS4.out _ R9.out)
    have HX2 := Lib.hid (owns_reads hx2)
    have HX1' := Lib.hid (HX1.out.fr r9 (by simp))
    clear hx2 r9
    refine hK' _ _ (S9.out) ?_
    clear hK'
    try simp only [Act.put, List.setIfInBounds_toArray, List.set_cons_zero, List.set_cons_succ]
    repeat (first
      | (refine Lex.skips (by rfl) ?_; (try simp only [Act.put, List.setIfInBounds_toArray, List.set_cons_zero, List.set_cons_succ]))
      | (refine Lex.quiet (v := ?_) (by rfl) (by rfl) ?_ ?_; rotate_left; (focus (intro w' hS'; go_simp; try rfl)); (try simp only [Act.put, List.setIfInBounds_toArray, List.set_cons_zero, List.set_cons_succ])))
    refine Lex.loud (by rfl) (by rfl) ?_
    intro K' hK'
    go_simp
    refine (sameo_ok _ x1 x2 s.ds t.ds s.e.1 s.e.2 t.e.1 t.e.2 HX1'.out HX2.out (by have := HDS.out.1; omega) (by have := HDS.out.2; omega)).mono ?_
    rintro e w10 ⟨rfl, r10⟩
    rw [E7.out]
    have R10 := Lib.hid (R9.out.trans r10)
    have S10 := Lib.hid (SS4.out _ R10.out)
    clear r10
    refine hK' _ _ (S10.out) ?_
    clear hK'
    try simp only [Act.put, List.setIfInBounds_toArray, List.set_cons_zero, List.set_cons_succ]
    repeat (first
      | (refine Lex.skips (by rfl) ?_; (try simp only [Act.put, List.setIfInBounds_toArray, List.set_cons_zero, List.set_cons_succ]))
      | (refine Lex.quiet (v := ?_) (by rfl) (by rfl) ?_ ?_; rotate_left; (focus (intro w' hS'; go_simp; try rfl)); (try simp only [Act.put, List.setIfInBounds_toArray, List.set_cons_zero, List.set_cons_succ])))
    refine Lex.done ?_
    refine Lex.ends ?_
    go_wp2_with fail
    go_ret
    exact ⟨by rw [HQ.out]; rfl, R10.out⟩
  have E7 : Hid (sameO s.ds t.ds (s.e.1, s.e.2) (t.e.1, t.e.2) = true) := Lib.hid h7
  have HQ : Hid (sameS s t = decide (s.inp.drop s.pos = t.inp.drop t.pos)) := Lib.hid (by
    unfold sameS
    rw [E4.out, E5.out, E6.out, h7, decide_eq_true G0.out, decide_eq_true G1.out, decide_eq_true G2.out, decide_eq_true G3.out]
    simp)
  clear h7
  refine Lex.region [33, 35, 47] [50] (by kernel_rfl) (by kernel_rfl) ?_
  refine Lex.opens (fun w' => w'.cell? ⟨p, 13, none⟩ = some (.int .i64 s.f) ∧ w'.cell? ⟨p, 14, none⟩ = some (.int .i64 s.pc) ∧ w'.cell? ⟨p, 12, none⟩ = some (.int .u64 s.at_) ∧ w'.cell? ⟨p, 15, none⟩ = some z.kv ∧ w'.cell? ⟨q, 13, none⟩ = some (.int .i64 t.f) ∧ w'.cell? ⟨q, 14, none⟩ = some (.int .i64 t.pc) ∧ w'.cell? ⟨q, 12, none⟩ = some (.int .u64 t.at_) ∧ w'.cell? ⟨q, 15, none⟩ = some y.kv) (S3.out) ?_
  repeat (first
    | (refine Lex.skips (by rfl) ?_; (try simp only [Act.put, List.setIfInBounds_toArray, List.set_cons_zero, List.set_cons_succ]))
    | (refine Lex.quiet (v := ?_) (by rfl) (by rfl) ?_ ?_; rotate_left; (focus (intro w' hS'; go_simp; try rfl)); (try simp only [Act.put, List.setIfInBounds_toArray, List.set_cons_zero, List.set_cons_succ])))
  refine Lex.loud (by rfl) (by rfl) ?_
  intro K' hK'
  go_simp
  refine (sfuel_ok _ H3.out).mono ?_
  rintro e w' ⟨rfl, rfl⟩
  refine hK' _ _ (S3.out) ?_
  clear hK'
  try simp only [Act.put, List.setIfInBounds_toArray, List.set_cons_zero, List.set_cons_succ]
  repeat (first
    | (refine Lex.skips (by rfl) ?_; (try simp only [Act.put, List.setIfInBounds_toArray, List.set_cons_zero, List.set_cons_succ]))
    | (refine Lex.quiet (v := ?_) (by rfl) (by rfl) ?_ ?_; rotate_left; (focus (intro w' hS'; go_simp; try rfl)); (try simp only [Act.put, List.setIfInBounds_toArray, List.set_cons_zero, List.set_cons_succ])))
  refine Lex.loud (by rfl) (by rfl) ?_
  intro K' hK'
  go_simp
  refine (sfuel_ok _ K3.out).mono ?_
  rintro e w' ⟨rfl, rfl⟩
  refine hK' _ _ (S3.out) ?_
  clear hK'
  try simp only [Act.put, List.setIfInBounds_toArray, List.set_cons_zero, List.set_cons_succ]
  repeat (first
    | (refine Lex.skips (by rfl) ?_; (try simp only [Act.put, List.setIfInBounds_toArray, List.set_cons_zero, List.set_cons_succ]))
    | (refine Lex.quiet (v := ?_) (by rfl) (by rfl) ?_ ?_; rotate_left; (focus (intro w' hS'; go_simp; try rfl)); (try simp only [Act.put, List.setIfInBounds_toArray, List.set_cons_zero, List.set_cons_succ])))
  refine Lex.loud (by rfl) (by rfl) ?_
  intro K' hK'
  go_simp
  refine (eqlinks_ok w.drew _ _ s.ls t.ls (owns_reads H3.out.links) (owns_reads K3.out.links) (by have := HLL.out; omega)).mono ?_
  rintro e w4 ⟨rfl, r4⟩
  rw [E4.out]
  have R4 := Lib.hid (R3.out.trans r4)
  have S4 := Lib.hid (SS3.out _ R4.out)
  clear r4
  refine hK' _ _ (S4.out) ?_
  clear hK'
  try simp only [Act.put, List.setIfInBounds_toArray, List.set_cons_zero, List.set_cons_succ]
  repeat (first
    | (refine Lex.skips (by rfl) ?_; (try simp only [Act.put, List.setIfInBounds_toArray, List.set_cons_zero, List.set_cons_succ]))
    | (refine Lex.quiet (v := ?_) (by rfl) (by rfl) ?_ ?_; rotate_left; (focus (intro w' hS'; go_simp; try rfl)); (try simp only [Act.put, List.setIfInBounds_toArray, List.set_cons_zero, List.set_cons_succ])))
  refine Lex.done ?_
  refine Lex.ends ?_
  go_wp2_with fail
  go_upto_region 4 with (fail)
  have R5 := Lib.hid (R4.out.trans (Fr.refl no _).drew)
  have S5 := Lib.hid (SS4.out _ R5.out)
  have H5 := Lib.hid (H.out.fr R5.out)
  have K5 := Lib.hid (K.out.fr R5.out)
  refine Lex.region [10, 21, 25, 27, 28, 32, 34, 35] [38] (by kernel_rfl) (by kernel_rfl) ?_
  refine Lex.opens (fun w' => w'.cell? ⟨p, 8, none⟩ = some (.pointer (some ⟨z.q, 0, none⟩)) ∧ At w' p 4 [.slice z.da s.m.d.length z.dc, .slice z.fa s.m.f.length z.fc] ∧ w'.cell? ⟨q, 8, none⟩ = some (.pointer (some ⟨y.q, 0, none⟩)) ∧ At w' q 4 [.slice y.da t.m.d.length y.dc, .slice y.fa t.m.f.length y.fc]) (S5.out) ?_
  repeat (first
    | (refine Lex.skips (by rfl) ?_; (try simp only [Act.put, List.setIfInBounds_toArray, List.set_cons_zero, List.set_cons_succ]))
    | (refine Lex.into (by rfl) (by rfl) _ _ rfl _ _ rfl _ _ ((fun _ h => h.2.1)) Tryz.underlying25 rfl (by rw [Tryz.infoMod]; rfl) ?_; (try simp only [Act.put, List.setIfInBounds_toArray, List.set_cons_zero, List.set_cons_succ]))
    | (refine Lex.into (by rfl) (by rfl) _ _ rfl _ _ rfl _ _ ((fun _ h => h.2.2.2)) Tryz.underlying25 rfl (by rw [Tryz.infoMod]; rfl) ?_; (try simp only [Act.put, List.setIfInBounds_toArray, List.set_cons_zero, List.set_cons_succ]))
    | (refine Lex.quiet (v := ?_) (by rfl) (by rfl) ?_ ?_; rotate_left; (focus (intro w' hS'; go_simp; try rfl)); (try simp only [Act.put, List.setIfInBounds_toArray, List.set_cons_zero, List.set_cons_succ])))
  refine Lex.loud (by rfl) (by rfl) ?_
  intro K' hK'
  go_simp
  refine (samemod_ok _ s.m t.m z.da z.fa y.da y.fa z.dc z.fc y.dc y.fc H5.out.tabs K5.out.tabs H5.out.ok.sm K5.out.ok.sm).mono ?_
  rintro e w6 ⟨rfl, r6⟩
  rw [E5.out]
  have R6 := Lib.hid (R5.out.trans r6)
  have S6 := Lib.hid (SS4.out _ R6.out)
  clear r6
  refine hK' _ _ (S6.out) ?_
  clear hK'
  try simp only [Act.put, List.setIfInBounds_toArray, List.set_cons_zero, List.set_cons_succ]
  repeat (first
    | (refine Lex.skips (by rfl) ?_; (try simp only [Act.put, List.setIfInBounds_toArray, List.set_cons_zero, List.set_cons_succ]))
    | (refine Lex.into (by rfl) (by rfl) _ _ rfl _ _ rfl _ _ ((fun _ h => h.2.1)) Tryz.underlying25 rfl (by rw [Tryz.infoMod]; rfl) ?_; (try simp only [Act.put, List.setIfInBounds_toArray, List.set_cons_zero, List.set_cons_succ]))
    | (refine Lex.into (by rfl) (by rfl) _ _ rfl _ _ rfl _ _ ((fun _ h => h.2.2.2)) Tryz.underlying25 rfl (by rw [Tryz.infoMod]; rfl) ?_; (try simp only [Act.put, List.setIfInBounds_toArray, List.set_cons_zero, List.set_cons_succ]))
    | (refine Lex.quiet (v := ?_) (by rfl) (by rfl) ?_ ?_; rotate_left; (focus (intro w' hS'; go_simp; try rfl)); (try simp only [Act.put, List.setIfInBounds_toArray, List.set_cons_zero, List.set_cons_succ])))
  refine Lex.loud (by rfl) (by rfl) ?_
  intro K' hK'
  go_simp
  refine (msame_ok _ (H.out.fr R6.out).mem (K.out.fr R6.out).mem).mono ?_
  rintro e w7 ⟨rfl, r7⟩
  rw [E6.out]
  have R7 := Lib.hid (R6.out.trans r7)
  have S7 := Lib.hid (SS4.out _ R7.out)
  clear r7
  refine hK' _ _ (S7.out) ?_
  clear hK'
  try simp only [Act.put, List.setIfInBounds_toArray, List.set_cons_zero, List.set_cons_succ]
  repeat (first
    | (refine Lex.skips (by rfl) ?_; (try simp only [Act.put, List.setIfInBounds_toArray, List.set_cons_zero, List.set_cons_succ]))
    | (refine Lex.into (by rfl) (by rfl) _ _ rfl _ _ rfl _ _ ((fun _ h => h.2.1)) Tryz.underlying25 rfl (by rw [Tryz.infoMod]; rfl) ?_; (try simp only [Act.put, List.setIfInBounds_toArray, List.set_cons_zero, List.set_cons_succ]))
    | (refine Lex.into (by rfl) (by rfl) _ _ rfl _ _ rfl _ _ ((fun _ h => h.2.2.2)) Tryz.underlying25 rfl (by rw [Tryz.infoMod]; rfl) ?_; (try simp only [Act.put, List.setIfInBounds_toArray, List.set_cons_zero, List.set_cons_succ]))
    | (refine Lex.quiet (v := ?_) (by rfl) (by rfl) ?_ ?_; rotate_left; (focus (intro w' hS'; go_simp; try rfl)); (try simp only [Act.put, List.setIfInBounds_toArray, List.set_cons_zero, List.set_cons_succ])))
  refine Lex.loud (by rfl) (by rfl) ?_
  intro K' hK'
  go_simp
  refine (sout_ok _ (H.out.fr R7.out) (by have := HDS.out.1; omega)).mono ?_
  rintro e w8 ⟨x1, rfl, hx1, r8⟩
  have R8 := Lib.hid (R7.out.trans r8)
  have S8 := Lib.hid (SS4.out _ R8.out)
  have HX1 := Lib.hid (owns_reads hx1)
  clear hx1 r8
  refine hK' _ _ (S8.out) ?_
  clear hK'
  try simp only [Act.put, List.setIfInBounds_toArray, List.set_cons_zero, List.set_cons_succ]
  repeat (first
    | (refine Lex.skips (by rfl) ?_; (try simp only [Act.put, List.setIfInBounds_toArray, List.set_cons_zero, List.set_cons_succ]))
    | (refine Lex.quiet (v := ?_) (by rfl) (by rfl) ?_ ?_; rotate_left; (focus (intro w' hS'; go_simp; try rfl)); (try simp only [Act.put, List.setIfInBounds_toArray, List.set_cons_zero, List.set_cons_succ])))
  refine Lex.loud (by rfl) (by rfl) ?_
  intro K' hK'
  go_simp
  refine (sout_ok _ (K.out.fr R8.out) (by have := HDS.out.2; omega)).mono ?_
  rintro e w9 ⟨x2, rfl, hx2, r9⟩
  have R9 := Lib.hid (R8.out.trans r9)
  have S9 := Lib.hid (SS4.out _ R9.out)
  have HX2 := Lib.hid (owns_reads hx2)
  have HX1' := Lib.hid (HX1.out.fr r9 (by simp))
  clear hx2 r9
  refine hK' _ _ (S9.out) ?_
  clear hK'
  try simp only [Act.put, List.setIfInBounds_toArray, List.set_cons_zero, List.set_cons_succ]
  repeat (first
    | (refine Lex.skips (by rfl) ?_; (try simp only [Act.put, List.setIfInBounds_toArray, List.set_cons_zero, List.set_cons_succ]))
    | (refine Lex.quiet (v := ?_) (by rfl) (by rfl) ?_ ?_; rotate_left; (focus (intro w' hS'; go_simp; try rfl)); (try simp only [Act.put, List.setIfInBounds_toArray, List.set_cons_zero, List.set_cons_succ])))
  refine Lex.loud (by rfl) (by rfl) ?_
  intro K' hK'
  go_simp
  refine (sameo_ok _ x1 x2 s.ds t.ds s.e.1 s.e.2 t.e.1 t.e.2 HX1'.out HX2.out (by have := HDS.out.1; omega) (by have := HDS.out.2; omega)).mono ?_
  rintro e w10 ⟨rfl, r10⟩
  rw [E7.out]
  have R10 := Lib.hid (R9.out.trans r10)
  have S10 := Lib.hid (SS4.out _ R10.out)
  clear r10
  refine hK' _ _ (S10.out) ?_
  clear hK'
  try simp only [Act.put, List.setIfInBounds_toArray, List.set_cons_zero, List.set_cons_succ]
  repeat (first
    | (refine Lex.skips (by rfl) ?_; (try simp only [Act.put, List.setIfInBounds_toArray, List.set_cons_zero, List.set_cons_succ]))
    | (refine Lex.quiet (v := ?_) (by rfl) (by rfl) ?_ ?_; rotate_left; (focus (intro w' hS'; go_simp; try rfl)); (try simp only [Act.put, List.setIfInBounds_toArray, List.set_cons_zero, List.set_cons_succ])))
  refine Lex.loud (by rfl) (by rfl) ?_
  intro K' hK'
  go_simp
  refine (sleft_ok _ (H.out.fr R10.out)).mono ?_
  rintro e w11 ⟨l1, rfl, hl1, r11⟩
  have R11 := Lib.hid (R10.out.trans r11)
  have S11 := Lib.hid (SS4.out _ R11.out)
  have HL1 := Lib.hid hl1
  clear hl1 r11
  refine hK' _ _ (S11.out) ?_
  clear hK'
  try simp only [Act.put, List.setIfInBounds_toArray, List.set_cons_zero, List.set_cons_succ]
  repeat (first
    | (refine Lex.skips (by rfl) ?_; (try simp only [Act.put, List.setIfInBounds_toArray, List.set_cons_zero, List.set_cons_succ]))
    | (refine Lex.quiet (v := ?_) (by rfl) (by rfl) ?_ ?_; rotate_left; (focus (intro w' hS'; go_simp; try rfl)); (try simp only [Act.put, List.setIfInBounds_toArray, List.set_cons_zero, List.set_cons_succ])))
  refine Lex.loud (by rfl) (by rfl) ?_
  intro K' hK'
  go_simp
  refine (sleft_ok _ (K.out.fr R11.out)).mono ?_
  rintro e w12 ⟨l2, rfl, hl2, r12⟩
  have R12 := Lib.hid (R11.out.trans r12)
  have S12 := Lib.hid (SS4.out _ R12.out)
  have HL2 := Lib.hid hl2
  have HL1' := Lib.hid (HL1.out.fr r12 (by simp))
  clear hl2 r12
  refine hK' _ _ (S12.out) ?_
  clear hK'
  try simp only [Act.put, List.setIfInBounds_toArray, List.set_cons_zero, List.set_cons_succ]
  repeat (first
    | (refine Lex.skips (by rfl) ?_; (try simp only [Act.put, List.setIfInBounds_toArray, List.set_cons_zero, List.set_cons_succ]))
    | (refine Lex.quiet (v := ?_) (by rfl) (by rfl) ?_ ?_; rotate_left; (focus (intro w' hS'; go_simp; try rfl)); (try simp only [Act.put, List.setIfInBounds_toArray, List.set_cons_zero, List.set_cons_succ])))
  refine Lex.loud (by rfl) (by rfl) ?_
  intro K' hK'
  go_simp
  refine (eqbytes_ok _ l1 l2 _ _ HL1'.out HL2.out (by have := H.out.ok.il; rw [List.length_drop]; omega)).mono ?_
  rintro e w13 ⟨rfl, r13⟩
  have R13 := Lib.hid (R12.out.trans r13)
  have S13 := Lib.hid (SS4.out _ R13.out)
  clear r13
  refine hK' _ _ (S13.out) ?_
  clear hK'
  try simp only [Act.put, List.setIfInBounds_toArray, List.set_cons_zero, List.set_cons_succ]
  repeat (first
    | (refine Lex.skips (by rfl) ?_; (try simp only [Act.put, List.setIfInBounds_toArray, List.set_cons_zero, List.set_cons_succ]))
    | (refine Lex.quiet (v := ?_) (by rfl) (by rfl) ?_ ?_; rotate_left; (focus (intro w' hS'; go_simp; try rfl)); (try simp only [Act.put, List.setIfInBounds_toArray, List.set_cons_zero, List.set_cons_succ])))
  refine Lex.done ?_
  refine Lex.ends ?_
  go_wp2_with fail
  go_ret
  exact ⟨by rw [HQ.out]; rfl, R13.out⟩

end Go.Proofs.YtihnkijeefkefaaGreat

set_option linter.unusedSimpArgs false
set_option linter.unusedVariables false
set_option linter.unusedSectionVars false
set_option linter.unnecessarySimpa false
set_option maxRecDepth 100000
/- SpaceAgain. -/
namespace Go.Proofs.YtihnkijeefkefaaGreat
open Go.RowKit

attribute [local go_sem] Program.isFuncB Program.isSliceB

variable {w w' w'' w0 w1 : World} {O R X : Nat → Prop} {p q : Nat} {s s' t t' : Zp} {A B : (Nat → Prop) → (Nat → Prop) → World → Prop}

theorem sameS_refl (s : Zp) : sameS s s = true := by simp [sameS, sameO]
theorem actS_end (h : ¬ s.e.1 = 0) (x : Ax) : (s.actS x).e = s.e := by
  unfold Zp.actS
  split
  · rfl
  split
  · rw [setS_9 h]
  split
  · rw [goS_9 h]
  split
  · rw [burnS_9 h]
  split
  · rw [callS_9 h]
  split
  · rw [retS_9 h]
  split
  · rw [stopS_9 h]
  split
  · rw [getbS_9 h]
  split
  · rw [putbS_9 h]
  split
  · unfold Zp.stoS; split <;> rfl
  · rfl
theorem Held.grow (ha : Thing A) (h : Held w0 w A X) (r : Fr no w w') : Held w0 w' A (fun k => X k ∨ (w.heap.size ≤ k ∧ k < w'.heap.size)) := by
  obtain ⟨O, R, h, hO, r0, hX, hRX⟩ := h
  have hl := ha.lt _ _ _ h
  refine ⟨O, R, ha.fr _ _ _ _ _ h r (fun k hk => hk.elim), fun k hk => ⟨(hO k hk).1, fun hx => ?_⟩, r0.trans r, fun k hk => ?_, fun k hk hx => ?_⟩
  · rcases hx with hx | hx
    · exact (hO k hk).2 hx
    · have := hl k (.inl hk); omega
  · rcases hk with hk | hk
    · exact Nat.lt_of_lt_of_le (hX k hk) r.size
    · exact hk.2
  · rcases hx with hx | hx
    · exact hRX k hk hx
    · have := hl k (.inr hk); omega
theorem Held.copy (h : Held w0 w (SpT p s) X) (hd : s.ds.length ≤ 1000000) : Calls Tryz.prog 45 #[.pointer (some ⟨p, 0, none⟩)] w fun e w' => ∃ q, e = .returned (.pointer (some ⟨q, 0, none⟩)) ∧ Held w0 w' (Both (SpT p s) (SpT q s)) X ∧ Fr no w w' := by
  obtain ⟨O, R, ⟨z, h⟩, hO, r0, hX, hRX⟩ := h
  refine (scopy_ok w h hd).mono ?_
  rintro e w' ⟨q, O', R', z', rfl, hq, hO', hR', r⟩
  refine ⟨q, rfl, ⟨fun k => O k ∨ O' k, fun k => R k ∨ R' k, ⟨O, R, O', R', ⟨z, h.fr r⟩, ⟨z', hq⟩, fun k hk => ⟨fun ho => ?_, fun hr => ?_⟩, fun k hk hr => ?_, fun k => Iff.rfl, fun k => Iff.rfl⟩, fun k hk => ?_, r0.trans r, fun k hk => Nat.lt_of_lt_of_le (hX k hk) r.size, fun k hk hx => ?_⟩, r⟩
  · have := h.lt k (.inl hk); have := hO' k ho; omega
  · rcases hR' k hr with e | e
    · exact h.dis k hk e
    · have := h.lt k (.inl hk); omega
  · have := h.lt k (.inr hr); have := hO' k hk; omega
  · rcases hk with hk | hk
    · exact hO k hk
    · have := hO' k hk
      exact ⟨Nat.le_trans r0.size this, fun hx => by have := hX k hx; omega⟩
  · have h1 := hX k hx
    rcases hk with hk | hk
    · exact hRX k hk hx
    · rcases hR' k hk with e | e
      · exact hRX k e hx
      · omega
attribute [local irreducible] Zp.callS Zp.layS Zp.down Zp.argsS newS Zp.actS sameS
set_option maxHeartbeats 16000000 in
theorem again15_ok (w : World) (m : Mx) (da : Option Addr) (dc : Nat) (fa : Option Addr) (fc : Nat) (mem : Int) (ia : Option Addr) (ic : Nat) (inp : List Nat) (la : Option Addr) (lc : Nat) (l : List Ax) (ka : Option Addr) (kc : Nat) (k : List Ax)
    (hm : ModRd w m da dc fa fc) (hraw : m.Raw) (hwf : (Lit.int .i64 mem).wf = true) (hin : Reads w (.slice ia inp.length ic) 1 inp.length (u8s inp)) (hib : ∀ x ∈ inp, x < 256) (hil : inp.length ≤ maxLen) (hl : ActsIn w la l) (hll : l.length ≤ maxLen) (hk : ActsIn w ka k) (hkl : k.length ≤ maxLen) :
    Calls Tryz.prog 8 #[.agg #[.slice da m.d.length dc, .slice fa m.f.length fc], .int .i64 mem, .slice ia inp.length ic, .slice la l.length lc, .slice ka k.length kc] w fun e w' => e = .returned (.bool true) ∧ Fr no w w' := by
  have r1 := (Fr.refl no w).alloc (.cells #[.slice da m.d.length dc, .slice fa m.f.length fc] 25)
  have hb1 := heap_new w (.cells #[.slice da m.d.length dc, .slice fa m.f.length fc] 25)
  have R1 := Lib.hid r1
  have HM1 := Lib.hid hb1
  have HM := Lib.hid hm
  have HL := Lib.hid hl
  have HK := Lib.hid hk
  have HIN := Lib.hid hin
  have HIB := Lib.hid hib
  have HRAW := Lib.hid hraw
  have HLL := Lib.hid hll
  have HKL := Lib.hid hkl
  unfold maxLen at hil
  clear r1 hb1 hm hl hk hin hib hraw hll hkl
  go_enter Tryz.func8, Tryz.ntmps8
  go_wp2_with fail
  refine (awake15_ok _).mono ?_
  rintro e w1 ⟨rfl, r1⟩
  have R2 := Lib.hid (R1.out.trans r1)
  have HM2 := Lib.hid (r1.heap HM1.out (by simp))
  clear r1
  go_wp2_with fail
  refine (pick_any w1 mem 62 hwf (by decide) (by decide)).mono ?_
  rintro e w' ⟨⟨kk, hkk, rfl⟩, rfl⟩
  have hw1 : IntKind.i64.wrap (1 + (kk : Int)) = 1 + (kk : Int) := by rw [IntKind.wrap_i64]; omega
  have hw2 : IntKind.i64.wrap (16 * (1 + (kk : Int))) = ((16 * (1 + kk) : Nat) : Int) := by rw [IntKind.wrap_i64]; omega
  obtain ⟨n, hn⟩ : ∃ n, n = 16 * (1 + kk) := ⟨_, rfl⟩
  have HN : Hid (16 ≤ n ∧ n ≤ 1000 ∧ n % 16 = 0) := Lib.hid (by omega)
  rw [← hn] at hw2
  clear hn hkk hwf
  have m0 := cell_of_heap (o := 0) HM2.out rfl
  have m1 := cell_of_heap (o := 1) HM2.out rfl
  go_wp2_with fail
  refine (longm_ok w1 m da dc fa fc (HM.out.fr R2.out).modIn HRAW.out).mono ?_
  rintro e w3 ⟨q, rfl, hq, r3⟩
  have R3 := Lib.hid (R2.out.trans r3)
  have HM3 := Lib.hid (r3.heap HM2.out (by simp))
  clear r3 m0 m1
  cases q
  case true =>
    clear hq
    go_wp2_with fail
    go_ret
    exact ⟨rfl, R3.out⟩
  have HFM := Lib.hid (hq rfl)
  clear hq
  have HSM : Hid m.Small := Lib.hid (LongM.small HRAW.out HFM.out)
  by_cases hi1 : inp.length > 100
  · have hi1' : (inp.length : Int) > 100 := by omega
    go_wp2_with fail
    go_ret
    exact ⟨rfl, R3.out⟩
  have hi1' : ¬ (inp.length : Int) > 100 := by omega
  go_wp2_with fail
  refine (long15_ok w3 la lc l (HL.out.fr R3.out) HLL.out).mono ?_
  rintro e w4 ⟨rfl, r4⟩
  have R4 := Lib.hid (R3.out.trans r4)
  have HM4 := Lib.hid (r4.heap HM3.out (by simp))
  clear r4
  cases hlg : longA l
  case true =>
    clear hlg
    go_wp2_with fail
    go_ret
    exact ⟨rfl, R4.out⟩
  have HLA := Lib.hid (longA_false hlg)
  clear hlg
  go_wp2_with fail
  refine (long15_ok w4 ka kc k (HK.out.fr R4.out) HKL.out).mono ?_
  rintro e w5 ⟨rfl, r5⟩
  have R5 := Lib.hid (R4.out.trans r5)
  have HM5 := Lib.hid (r5.heap HM4.out (by simp))
  clear r5
  cases hlg : longA k
  case true =>
    clear hlg
    go_wp2_with fail
    go_ret
    exact ⟨rfl, R5.out⟩
  have HKA := Lib.hid (longA_false hlg)
  clear hlg
  go_upto_region 5 with (fail)
  have m0 := cell_of_heap (o := 0) HM5.out rfl
  have m1 := cell_of_heap (o := 1) HM5.out rfl
  go_wp2_with fail
  have hmr0 := HM.out.fr R5.out
  by_cases hb : newBad m n 20
  case pos =>
    refine (snew_bad (inp := inp) (ia := ia) (ic := ic) w5 hmr0 HSM.out hb).mono ?_
    rintro e w7 ⟨rfl, r7⟩
    have R7 := Lib.hid (R5.out.trans r7)
    clear r7
    go_wp2_with fail
    go_ret
    exact ⟨rfl, R7.out⟩
  by_cases hfl : (n : Int) < flr m
  case pos =>
    refine (snew_full (inp := inp) (ia := ia) (ic := ic) w5 hmr0 HSM.out (HIN.out.fr R5.out (by simp)) (by omega) hb hfl).mono ?_
    rintro e w7 ⟨rfl, r7⟩
    have R7 := Lib.hid (R5.out.trans r7)
    clear r7
    go_wp2_with fail
    go_ret
    exact ⟨rfl, R7.out⟩
  have har : NewArg m n inp 20 := ⟨Decidable.not_not.1 (fun h => hb (.inl h)), HSM.out, HN.out.1, by have := HN.out.2.1; omega, HN.out.2.2, by omega, by omega, HIB.out, by decide, by decide⟩
  have hnew := snew_ok (inp := inp) (ia := ia) (ic := ic) w5 hmr0 HSM.out (HIN.out.fr R5.out (by simp)) (by omega) HIB.out hb (by omega)
  rw [Int.toNat_natCast] at hnew
  refine hnew.mono ?_
  rintro e w7 ⟨p, O, R, z, rfl, hna⟩
  clear hnew hfl hb m0 m1 hmr0
  obtain ⟨hsp, hO, hRR, r7⟩ := hna
  have HBL : Hid ((newS m n inp 20).ds.length = 0) := Lib.hid (by rw [(newS_same m n inp 20).2.2.2.1]; rfl)
  have HH7 : Hid (Held w w7 (SpT p (newS m n inp 20)) (fun k => k < w5.heap.size)) := Lib.hid ⟨O, R, ⟨z, hsp⟩, fun k hk => ⟨by have := hO k hk; have := R5.out.size; omega, fun hx => by have := hO k hk; omega⟩, R5.out.trans r7, fun k hk => Nat.lt_of_lt_of_le hk r7.size, fun k hk hx => by have := hRR k hk; omega⟩
  clear hsp hO hRR r7 har
  go_wp2_with fail
  go_loopw [14] (fun y wr => ∃ (j : Nat) (s : Zp), j ≤ l.length ∧ y = .int .i64 j ∧ Hid (s.ds.length ≤ j) ∧ Hid (Held w wr (SpT p s) (fun k => k < w5.heap.size))) (fun y _ => (l.length - intOf y).toNat)
  case atStart => exact ⟨0, _, by omega, by simp, Lib.hid (by rw [HBL.out]; omega), HH7⟩
  case round =>
    obtain ⟨j, s, hj, rfl, hbd, hh⟩ := hrel
    by_cases hjl : j < l.length
    case pos =>
      have hlt : (j : Int) < l.length := by omega
      have hl50 := HLA.out.1
      obtain ⟨lb, lo, ua, uc, rfl, hat, hrd, hfx⟩ := HL.out j hjl
      have hxl := HLA.out.2 l[j] (List.getElem_mem hjl)
      have hdl : s.ds.length < 100000 := by have := hbd.out; have := HLA.out.1; omega
      generalize l[j] = y at *
      have fr := hh.out.frame
      have HC : Hid (∀ O R, SpT p s O R wr → Calls Tryz.prog 27 #[.pointer (some ⟨p, 0, none⟩), .agg #[.int .i64 y.k, .int .i64 y.r, .int .i64 y.n, .int .i64 y.b, .int .u64 y.v, .slice ua y.l.length uc, .int .i64 y.ek, .int .i64 y.ec]] wr fun e w' => e = .returned (.tuple #[]) ∧ ThTo wr w' O R (SpT p (s.actS y))) := Lib.hid (fun O R ⟨z, h⟩ => (act_ok wr y ua uc (hrd.fr fr (by simp)) hfx hdl (by omega) h).mono (fun e w' ⟨a, b⟩ => ⟨a, b.th⟩))
      have HAT : Hid (At wr lb (lo + j * 8) [.int .i64 y.k, .int .i64 y.r, .int .i64 y.n, .int .i64 y.b, .int .u64 y.v, .slice ua y.l.length uc, .int .i64 y.ek, .int .i64 y.ec]) := Lib.hid (hat.fr fr)
      have HOK : Hid s.Ok := Lib.hid (hh.out.one (fun O R ⟨z, h⟩ => h.ok))
      clear hat hrd hfx hxl hdl fr
      go_wp2_with ((refine wpList_load_in (o := ⟨some 62, .load 57 (.tmp 61), _, _, _, _⟩) rfl 57 (.tmp 61) rfl lb (lo + j * 8) rfl _ _ HAT.out Tryz.underlying57 rfl (by rw [Tryz.infoAct]; rfl) ?_))
      refine (hh.out.call HC.out).mono ?_
      rintro e w9 ⟨rfl, hh9, -⟩
      have HH9 := Lib.hid hh9
      have HBD9 : Hid ((s.actS y).ds.length ≤ j + 1) := Lib.hid (by have h1 := actS_keep HOK.out y; have h2 := hbd.out; omega)
      clear hh9 HC HAT
      go_wp2_with fail
      go_roundw
      case rel => exact ⟨j + 1, _, by omega, by go_num, HBD9, HH9⟩
      case measure => first | (simp [intOf]; done) | (simp [intOf]; omega)
    case neg =>
      obtain rfl : j = l.length := by omega
      have hlt : ¬ ((l.length : Nat) : Int) < l.length := by omega
      have HDL : Hid (s.ds.length ≤ 50) := Lib.hid (by have := hbd.out; have := HLA.out.1; omega)
      go_wp2_with fail
      refine (hh.out.copy (by have := HDL.out; omega)).mono ?_
      rintro e w8 ⟨q, rfl, hh8, r8⟩
      have HH8 := Lib.hid hh8
      clear hh8 r8
      go_wp2_with fail
      refine (HH8.out.one (fun O R h => h.at1 (fun O R ⟨z, h⟩ => send_ok w8 h))).mono ?_
      rintro e w9 ⟨rfl, r9⟩
      have TT : Hid (∀ s t, Thing (Both (SpT p s) (SpT q t))) := Lib.hid (fun s t => Both.thing (spT p s) (spT q t))
      have hh9 := HH8.out.fr (TT.out _ _) r9
      clear r9
      obtain ⟨e1, he1⟩ : ∃ e1, s.e.1 = e1 := ⟨_, rfl⟩
      obtain ⟨e2, he2⟩ : ∃ e2, s.e.2 = e2 := ⟨_, rfl⟩
      have HE : Hid (s.e.1 = e1 ∧ s.e.2 = e2) := Lib.hid ⟨he1, he2⟩
      rw [he1, he2]
      clear he1 he2
      have r10 := (Fr.refl no w9).alloc (.cells #[.int .i64 e1, .int .i64 e2] 43)
      have HE10 := Lib.hid (heap_new w9 (.cells #[.int .i64 e1, .int .i64 e2] 43))
      have HH10 := Lib.hid (hh9.grow (TT.out _ _) r10)
      have HEX : Hid (w9.heap.size < (w9.alloc (.cells #[.int .i64 e1, .int .i64 e2] 43)).heap.size) := Lib.hid (Array.getElem?_eq_some_iff.1 HE10.out).1
      clear hh9 r10
      go_wp2_with fail
      generalize w9.alloc (.cells #[.int .i64 e1, .int .i64 e2] 43) = w10 at *
      refine (HH10.out.one (fun O R ⟨O1, R1, O2, R2, ⟨z1, h1⟩, ⟨z2, h2⟩, _⟩ => ssame_ok w10 h2 h1 (by have := HDL.out; omega) (by have := HDL.out; omega))).mono ?_
      rintro e w11 ⟨rfl, r11⟩
      rw [sameS_refl]
      have HH11 := Lib.hid (HH10.out.fr (TT.out _ _) r11)
      have HE11 := Lib.hid (r11.heap HE10.out (by simp))
      clear r11
      go_wp2_with fail
      go_loopw [18] (fun y wr => ∃ (j : Nat) (t : Zp), j ≤ k.length ∧ y = .int .i64 j ∧ Hid (t.ds.length ≤ 50 + j) ∧ Hid (¬ s.e.1 = 0 → t.e = s.e) ∧ Hid (Held w wr (Both (SpT p t) (SpT q t)) (fun k => k < w5.heap.size ∨ (w9.heap.size ≤ k ∧ k < w10.heap.size))) ∧ Hid (wr.heap[w9.heap.size]? = some (.cells #[.int .i64 e1, .int .i64 e2] 43 (0, 0)))) (fun y _ => (k.length - intOf y).toNat)
      case atStart => exact ⟨0, s, by omega, by simp, Lib.hid (by have := HDL.out; omega), Lib.hid (fun _ => rfl), HH11, HE11⟩
      case round =>
        obtain ⟨j, t, hj, rfl, htd, hte, hh, heb⟩ := hrel
        by_cases hjl : j < k.length
        case pos =>
          have hlt : (j : Int) < k.length := by omega
          have hk50 := HKA.out.1
          obtain ⟨lb, lo, ua, uc, rfl, hat, hrd, hfx⟩ := HK.out j hjl
          have hxl := HKA.out.2 k[j] (List.getElem_mem hjl)
          have hdl : t.ds.length < 100000 := by have := htd.out; have := HKA.out.1; omega
          generalize k[j] = y at *
          have HY : Hid (∀ w' p, Fr no w w' → ∀ O R, SpT p t O R w' → Calls Tryz.prog 27 #[.pointer (some ⟨p, 0, none⟩), .agg #[.int .i64 y.k, .int .i64 y.r, .int .i64 y.n, .int .i64 y.b, .int .u64 y.v, .slice ua y.l.length uc, .int .i64 y.ek, .int .i64 y.ec]] w' fun e w'' => e = .returned (.tuple #[]) ∧ ThTo w' w'' O R (SpT p (t.actS y))) := Lib.hid (fun w' p r O R ⟨z, h⟩ => (act_ok w' y ua uc (hrd.fr r (by simp)) hfx hdl (by omega) h).mono (fun e w' ⟨a, b⟩ => ⟨a, b.th⟩))
          have HAT : Hid (∀ w', Fr no w w' → At w' lb (lo + j * 8) [.int .i64 y.k, .int .i64 y.r, .int .i64 y.n, .int .i64 y.b, .int .u64 y.v, .slice ua y.l.length uc, .int .i64 y.ek, .int .i64 y.ec]) := Lib.hid (fun w' r => hat.fr r)
          have HOK : Hid t.Ok := Lib.hid (hh.out.one (fun O R h => h.at1 (fun O R ⟨z, h⟩ => h.ok)))
          have HC1 := Lib.hid (HY.out wr p hh.out.frame)
          have HA1 := Lib.hid (HAT.out wr hh.out.frame)
          clear hat hrd hfx hxl hdl
          go_wp2_with ((refine wpList_load_in (o := ⟨some 89, .load 57 (.tmp 88), _, _, _, _⟩) rfl 57 (.tmp 88) rfl lb (lo + j * 8) rfl _ _ HA1.out Tryz.underlying57 rfl (by rw [Tryz.infoAct]; rfl) ?_))
          refine (hh.out.call (fun O R h => h.left (spT p t) (spT q t) HC1.out)).mono ?_
          rintro e w12 ⟨rfl, hh12, r12⟩
          have HH12 := Lib.hid hh12
          have HE12 := Lib.hid (r12.heap heb.out (fun h => h.1 (.inr ⟨Nat.le_refl _, HEX.out⟩)))
          have HC2 := Lib.hid (HY.out w12 q hh12.frame)
          have HA2 := Lib.hid (HAT.out w12 hh12.frame)
          clear hh12 r12 HC1 HA1
          go_wp2_with ((refine wpList_load_in (o := ⟨some 95, .load 57 (.tmp 94), _, _, _, _⟩) rfl 57 (.tmp 94) rfl lb (lo + j * 8) rfl _ _ HA2.out Tryz.underlying57 rfl (by rw [Tryz.infoAct]; rfl) ?_))
          refine (HH12.out.call (fun O R h => h.right (spT p (t.actS y)) (spT q t) HC2.out)).mono ?_
          rintro e w13 ⟨rfl, hh13, r13⟩
          have HH13 := Lib.hid hh13
          have HE13 := Lib.hid (r13.heap HE12.out (fun h => h.1 (.inr ⟨Nat.le_refl _, HEX.out⟩)))
          have HD13 : Hid ((t.actS y).ds.length ≤ 50 + (j + 1)) := Lib.hid (by have h1 := actS_keep HOK.out y; have h2 := htd.out; omega)
          have HT13 : Hid (¬ s.e.1 = 0 → (t.actS y).e = s.e) := Lib.hid (fun h => by
            have := hte.out h
            rw [actS_end (by rw [this]; exact h), this])
          have hds : (t.actS y).ds.length ≤ 100000 := by have := HD13.out; have := HKA.out.1; omega
          clear hh13 r13 HC2 HA2
          generalize t.actS y = u at *
          go_wp2_with fail
          refine (HH13.out.one (fun O R ⟨O1, R1, O2, R2, ⟨z1, h1⟩, ⟨z2, h2⟩, _⟩ => ssame_ok w13 h2 h1 hds hds)).mono ?_
          rintro e w14 ⟨rfl, r14⟩
          rw [sameS_refl]
          have HH14 := Lib.hid (HH13.out.fr (TT.out _ _) r14)
          have HE14 := Lib.hid (r14.heap HE13.out (by simp))
          clear r14 hds
          go_wp2_with fail
          go_roundw
          case rel => exact ⟨j + 1, u, by omega, by go_num, HD13, HT13, HH14, HE14⟩
          case measure => first | (simp [intOf]; done) | (simp [intOf]; omega)
        case neg =>
          have hlt : ¬ (j : Int) < k.length := by omega
          go_wp2_with fail
          refine (hh.out.one (fun O R h => h.at1 (fun O R ⟨z, h⟩ => send_ok wr h))).mono ?_
          rintro e w12 ⟨rfl, r12⟩
          have HE12 := Lib.hid (r12.heap heb.out (by simp))
          have RF := Lib.hid (hh.out.frame.trans r12)
          clear r12
          obtain ⟨f1, hf1⟩ : ∃ f1, t.e.1 = f1 := ⟨_, rfl⟩
          obtain ⟨f2, hf2⟩ : ∃ f2, t.e.2 = f2 := ⟨_, rfl⟩
          have HFE : Hid (¬ e1 = 0 → f1 = e1 ∧ f2 = e2) := Lib.hid (fun h => by
            have := hte.out (by rw [HE.out.1]; exact h)
            rw [← hf1, ← hf2, this, HE.out.1, HE.out.2]
            exact ⟨rfl, rfl⟩)
          rw [hf1, hf2]
          clear hf1 hf2
          have r13 := (Fr.refl no w12).alloc (.cells #[.int .i64 f1, .int .i64 f2] 43)
          have hn13 := heap_new w12 (.cells #[.int .i64 f1, .int .i64 f2] 43)
          have ho13 := r13.heap HE12.out (by simp)
          have c0 := cell_of_heap (o := 0) hn13 rfl
          have c1 := cell_of_heap (o := 1) hn13 rfl
          have d0 := cell_of_heap (o := 0) ho13 rfl
          have d1 := cell_of_heap (o := 1) ho13 rfl
          have RF13 := Lib.hid (RF.out.trans r13)
          clear r13 hn13 ho13
          by_cases h0 : e1 = 0
          · subst h0
            go_wp2_with fail
            go_ret
            exact ⟨rfl, RF13.out⟩
          · obtain ⟨g1, g2⟩ := HFE.out h0
            subst g1 g2
            have hb0 : (f1 != 0) = true := bne_iff_ne.2 h0
            clear h0 HFE
            go_wp2_with fail
            go_ret
            exact ⟨by simp, RF13.out⟩
theorem u8s_of (zs : List Int) (h : ∀ z ∈ zs, (Lit.int .u8 z).wf = true) : u8s (zs.map Int.toNat) = zs.map (.int .u8) ∧ ∀ x ∈ zs.map Int.toNat, x < 256 := by
  have hr : ∀ z ∈ zs, 0 ≤ z ∧ z ≤ 255 := fun z hz => by
    have h1 : IntKind.u8.min ≤ z ∧ z ≤ IntKind.u8.max := by simpa [Lit.wf] using h z hz
    have h2 : IntKind.u8.min = 0 := by decide
    have h3 : IntKind.u8.max = 255 := by decide
    omega
  constructor
  · unfold u8s
    rw [List.map_map]
    refine List.map_congr_left fun z hz => ?_
    have := hr z hz
    simp only [Function.comp]
    congr 1
    omega
  · intro x hx
    obtain ⟨z, hz, rfl⟩ := List.mem_map.1 hx
    have := hr z hz
    omega
theorem again15_rd (w : World) (s0 : Array Value) {n0 : Nat} {d0 : Dt} (h0 : Rd Tryz.prog w n0 25 s0.toList d0) (mem : Int) (hwf : (Lit.int .i64 mem).wf = true) (iv : Value) (zs : List Int) (hi : Reads w iv 1 zs.length (zs.map (.int .u8)) ∧ (∀ z ∈ zs, (Lit.int .u8 z).wf = true) ∧ zs.length * Tryz.prog.bytesOf 5 ≤ reachBytes)
    (lv : Value) {n2 : Nat} {d2 : Dt} (h2 : Rd Tryz.prog w n2 55 [lv] d2) (kv : Value) {n3 : Nat} {d3 : Dt} (h3 : Rd Tryz.prog w n3 55 [kv] d3) :
    Calls Tryz.prog 8 #[.agg s0, .int .i64 mem, iv, lv, kv] w fun e w' => e = .returned (.bool true) ∧ Fr no w w' := by
  have b3 : Tryz.prog.bytesOf 5 = 1 := by kernel_rfl
  have hR : reachBytes = 140737488351232 := rfl
  obtain ⟨m, da, dc, fa, fc, e0, hm, hr⟩ := mod_rd_of h0
  obtain rfl : s0 = #[.slice da m.d.length dc, .slice fa m.f.length fc] := Array.ext' e0
  obtain ⟨la, lc, l, rfl, hl, hll⟩ := acts_of h2
  obtain ⟨ka, kc, k, rfl, hk, hkl⟩ := acts_of h3
  obtain ⟨e1, e2⟩ := u8s_of zs hi.2.1
  have h4 := hi.2.2
  rw [b3, hR] at h4
  have h5 : Reads w iv 1 (zs.map Int.toNat).length (u8s (zs.map Int.toNat)) := by rw [e1, List.length_map]; exact hi.1
  obtain ⟨ia, ic, rfl⟩ := h5.shape
  exact again15_ok w m da dc fa fc mem ia ic (zs.map Int.toNat) la lc l ka kc k hm hr hwf h5 e2 (by rw [List.length_map]; unfold maxLen; omega) hl hll hk hkl

end Go.Proofs.YtihnkijeefkefaaGreat

namespace Go.Proofs.YtihnkijeefkefaaGreat.spaceAgainP
open Go.ChangeShapes Go.WideShapes Go.ChangeAt Go.RowKit

theorem own : ownKnob Tryz.prog.godebug = none := by kernel_rfl
theorem laidOut : laidOutB Tryz.prog = true := by kernel_rfl

set_option linter.unusedVariables false
set_option maxRecDepth 100000 in
theorem lifted (os : Os) (started : os.Started) (H : Type) (enc : TypeId × Value → H) :
    ReturnsInHanded {} Tryz.checked os 8 .any (Rows.spaceAgainSpec.pre6 enc Tryz.prog Tryz.f8 Rows.spaceAgainRow.domain false) (Rows.spaceAgainSpec.post enc Tryz.prog Tryz.f8 false true false false) := by
  refine returnsInHanded_of_change_sized (C := Tryz.checked) own started (by kernel_rfl) Tryz.func8
    (ChangeSpec.witness6 (enc := enc) (C := Tryz.checked) false ⟨#[], #[.agg #[.slice none 0 0, .slice none 0 0], .int .i64 0, .slice none 0 0, .slice none 0 0, .slice none 0 0], []⟩ 8 (by kernel_rfl) (by kernel_rfl) (by kernel_rfl) (by kernel_rfl)) ?_
  intro W base args ds gs before hval0 hW hcnd hsz0 _
  have hval : ∀ (j : Nat) t v, Tryz.f8.params[j]? = some t → args[j]? = some v → Value.okWide Tryz.prog W .any base t v := hval0
  have hsz : (DataW.weightsEach Tryz.prog (Tryz.f8.params.toList ++ Rows.spaceAgainSpec.plain.varTypes Tryz.prog) (ds ++ gs)).all (· ≤ reachBytes) = true := hsz0
  clear hsz0 hcnd
  have hW' := hW
  obtain ⟨p, q, hA0, hV, rfl, hfz, hnd⟩ := hW
  have hA : DataW.TrodAll enc Tryz.prog W 0 (fun _ => true) true Tryz.f8.params.toList args.toList ds p := hA0
  rw [Tryz.params8] at hA hval hsz
  obtain ⟨v0, vs0, d0, ds0, p0, q0, hargs, rfl, rfl, h0, r0⟩ := trodAll_cons hA
  obtain ⟨v1, vs1, d1, ds1, p1, q1, rfl, rfl, rfl, h1, r1⟩ := trodAll_cons r0
  obtain ⟨v2, vs2, d2, ds2, p2, q2, rfl, rfl, rfl, h2, r2⟩ := trodAll_cons r1
  obtain ⟨v3, vs3, d3, ds3, p3, q3, rfl, rfl, rfl, h3, r3⟩ := trodAll_cons r2
  obtain ⟨v4, vs4, d4, ds4, p4, q4, rfl, rfl, rfl, h4, r4⟩ := trodAll_cons r3
  obtain ⟨rfl, rfl, rfl⟩ := trodAll_nil r4
  obtain rfl : args = #[v0, v1, v2, v3, v4] := by cases args; simp_all
  obtain ⟨rfl, rfl⟩ := trodVars_none hV
  clear hA0 hval0
  have k0 := h0
  have lt0 : ∀ x ∈ p0, x.block < W.heap.size := by obtain ⟨m, hm⟩ := k0; exact DataW.trod_lt m _ _ _ hm
  obtain ⟨s0, n0, c0, rfl, e0⟩ := arg_agg Tryz.underlying25 (hval 0 25 v0 rfl rfl) h0
  have k1 := h1
  have lt1 : ∀ x ∈ p1, x.block < W.heap.size := by obtain ⟨m, hm⟩ := k1; exact DataW.trod_lt m _ _ _ hm
  obtain ⟨n1, rfl, e1⟩ := arg_int Tryz.underlying3 (hval 1 3 v1 rfl rfl) h1
  have k2 := h2
  have lt2 : ∀ x ∈ p2, x.block < W.heap.size := by obtain ⟨m, hm⟩ := k2; exact DataW.trod_lt m _ _ _ hm
  obtain ⟨n2, e2⟩ := arg_ints Tryz.underlying22 Tryz.underlying5 (by kernel_rfl) (hval 2 22 v2 rfl rfl) h2 (fun x y hd => sized_slice hsz (j := 2) (t := 22) (e := 5) rfl (by rw [hd]; rfl) Tryz.underlying22)
  have k3 := h3
  have lt3 : ∀ x ∈ p3, x.block < W.heap.size := by obtain ⟨m, hm⟩ := k3; exact DataW.trod_lt m _ _ _ hm
  obtain ⟨n3, c3, e3⟩ := arg_row Tryz.underlying55 (hval 3 55 v3 rfl rfl) h3
  have k4 := h4
  have lt4 : ∀ x ∈ p4, x.block < W.heap.size := by obtain ⟨m, hm⟩ := k4; exact DataW.trod_lt m _ _ _ hm
  obtain ⟨n4, c4, e4⟩ := arg_row Tryz.underlying55 (hval 4 55 v4 rfl rfl) h4
  refine (again15_rd W s0 e0 n1 e1 v2 n2 e2 v3 e3 v4 e4).mono fun e W' ⟨he, fr⟩ => ?_
  subst he
  have bel := fr.below (Nat.le_refl _) (fun k hk => hk.elim)
  exact ⟨_, rfl, _, _, _, [], _, [], hW', trodAll_mk1 (shut_bool Tryz.underlying4 _), (trodAll_cons_mk (Below.trod laidOut (by kernel_rfl) (of_decide_eq_true (by kernel_rfl)) k0 bel lt0) (trodAll_cons_mk (Below.trod laidOut (by kernel_rfl) (of_decide_eq_true (by kernel_rfl)) k1 bel lt1) (trodAll_cons_mk (Below.trod laidOut (by kernel_rfl) (of_decide_eq_true (by kernel_rfl)) k2 bel lt2) (trodAll_cons_mk (Below.trod laidOut (by kernel_rfl) (of_decide_eq_true (by kernel_rfl)) k3 bel lt3) (trodAll_cons_mk (Below.trod laidOut (by kernel_rfl) (of_decide_eq_true (by kernel_rfl)) k4 bel lt4) trodAll_mk0))))), rfl, bel.frame _, fun h => by cases h⟩

theorem proved : Rows.SpaceAgainSaid :=
  OpenClaim.holds_of_wide 8 Tryz.f8 rfl rfl rfl rfl rfl rfl rfl ⟨rfl, rfl, rfl, rfl, rfl⟩ rfl rfl rfl rfl rfl (by kernel_rfl) Tryz.func8 (by kernel_rfl)
    (of_decide_eq_true (by kernel_rfl)) (by unfold Func.isWrapper; rw [if_neg (of_decide_eq_false (by kernel_rfl))]; exact ⟨rfl, rfl⟩)
    (fun os started H enc _ => lifted os started H enc)
#print axioms proved
end Go.Proofs.YtihnkijeefkefaaGreat.spaceAgainP

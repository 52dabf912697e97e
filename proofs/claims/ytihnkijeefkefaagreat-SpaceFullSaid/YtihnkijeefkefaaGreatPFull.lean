/- SpaceFull: whatever the input, the law's function returns true and leaves what it was handed as it was. No condition of our own. -/
import Derived.Test.YtihnkijeefkefaaGreatLA
import Derived.Test.YtihnkijeefkefaaGreatQ26
import Derived.ProofKit
import Derived.SizedLaws
import Derived.OpenShut
set_option linter.unusedSimpArgs false
set_option linter.unusedVariables false
set_option linter.unusedSectionVars false
set_option linter.unnecessarySimpa false
set_option maxRecDepth 100000
/- Rows of numbers as they are handed in. -/
namespace Go.RowKit
open Go.ChangeShapes Go.WideShapes Go.ChangeAt Go.Deep
section
variable {H : Type} {enc : TypeId × Value → H} {P : Program} {W : World} {base : Nat} {t e : TypeId} {v : Value} {d : DataW H} {p : List MemPlace}

theorem arg_ints {k : IntKind} {by_ : Nat} (ht : P.underlying t = some (.slice e)) (he : P.underlying e = some (.int k)) (hc : P.cellsOf e = 1)
    (hk : Value.okWide P W .any base t v) (h : DataW.Trod enc P W 0 (fun _ => true) true t v d p)
    (hs : ∀ x y, d = .slice x y → (x.length + y.length) * by_ ≤ reachBytes) :
    ∃ zs : List Int, Reads W v 1 zs.length (zs.map (.int k)) ∧ (∀ z ∈ zs, (Lit.int k z).wf = true) ∧ zs.length * by_ ≤ reachBytes := by
  obtain ⟨a, len, cap, rfl⟩ := okWide_slice ht hk
  obtain ⟨fuel, hf⟩ := h
  rcases open_ints ht he hc hf with ⟨hcs, _⟩ | ⟨x, l, c, zs, hcs, _, hl, hm, hz, hx, hcell, hwz⟩
  · simp [Value.cells] at hcs
    obtain ⟨rfl, rfl, rfl⟩ := hcs
    exact ⟨[], .inl ⟨rfl, rfl, rfl⟩, by simp, by simp⟩
  · simp [Value.cells] at hcs
    obtain ⟨rfl, rfl, rfl⟩ := hcs
    simp only [if_true] at hz
    have e1 : (zs.take len).length = len := by rw [List.length_take]; omega
    refine ⟨zs.take len, ?_, fun z hz' => hwz z (List.mem_of_mem_take hz'), ?_⟩
    · rw [e1]
      refine .inr ⟨x, cap, rfl, hl, hm, by simp; omega, fun j u hu => ?_⟩
      have hj : j < len := by
        rcases Nat.lt_or_ge j len with h | h
        · exact h
        · rw [List.getElem?_eq_none (by simp; omega)] at hu; cases hu
      rw [hcell j (by omega)]
      rw [List.getElem?_map, List.getElem?_take, if_pos hj, List.getElem?_eq_getElem (by omega)] at hu
      simp only [Option.map_some, Option.some.injEq] at hu
      rw [← hu, List.getD_eq_getElem?_getD, List.getElem?_eq_getElem (by omega)]; rfl
    · have hd := congrArg Prod.fst hx
      have := hs _ _ hd
      refine Nat.le_trans (Nat.mul_le_mul_right _ ?_) this
      simp [lits]
end

end Go.RowKit

set_option linter.unusedSimpArgs false
set_option linter.unusedVariables false
set_option linter.unusedSectionVars false
set_option linter.unnecessarySimpa false
set_option maxRecDepth 100000
/- Calls as they are handed in. -/
namespace Go.Proofs.YtihnkijeefkefaaGreat
open Go.RowKit

attribute [local go_sem] Program.isFuncB Program.isSliceB

variable {w w' w'' w0 : World}

structure Ax where
  k : Int
  r : Int
  n : Int
  b : Int
  v : Nat
  l : List Int
  ek : Int
  ec : Int
def Ax.cells (x : Ax) (u : Value) : List Value := [.int .i64 x.k, .int .i64 x.r, .int .i64 x.n, .int .i64 x.b, .int .u64 x.v, u, .int .i64 x.ek, .int .i64 x.ec]
/-- a call's numbers, as they may be -/
structure Ax.Fine (x : Ax) : Prop where
  n0 : -9223372036854775808 ≤ x.n
  n1 : x.n < 9223372036854775808
  v1 : x.v < 18446744073709551616
  l1 : x.l.length ≤ maxLen
/-- a row of calls: where each lies -/
def ActsIn (w : World) (sa : Option Addr) (l : List Ax) : Prop := ∀ k (h : k < l.length), ∃ b o ua uc, sa = some ⟨b, o, none⟩ ∧ At w b (o + k * 8) (l[k].cells (.slice ua l[k].l.length uc)) ∧ Reads w (.slice ua l[k].l.length uc) 1 l[k].l.length (ints l[k].l) ∧ l[k].Fine
theorem ActsIn.fr {sa : Option Addr} {l : List Ax} (h : ActsIn w sa l) (r : Fr no w w') : ActsIn w' sa l := fun k hk => by
  obtain ⟨b, o, ua, uc, e, h1, h2, h3⟩ := h k hk
  exact ⟨b, o, ua, uc, e, h1.fr r, h2.fr r (by simp), h3⟩
end Go.Proofs.YtihnkijeefkefaaGreat

set_option linter.unusedSimpArgs false
set_option linter.unusedVariables false
set_option linter.unusedSectionVars false
set_option linter.unnecessarySimpa false
set_option maxRecDepth 100000
/- A call of a space, as the law makes it. -/
namespace Go.Proofs.YtihnkijeefkefaaGreat
open Go.RowKit

attribute [local go_sem] Program.isFuncB Program.isSliceB

variable {w w' w'' w0 : World} {O R : Nat → Prop} {p : Nat} {s s' : Zp} {z : Pz}

end Go.Proofs.YtihnkijeefkefaaGreat

set_option linter.unusedSimpArgs false
set_option linter.unusedVariables false
set_option linter.unusedSectionVars false
set_option linter.unnecessarySimpa false
set_option maxRecDepth 100000
/- What SpaceBack's calls leave. Plain. -/
namespace Go.Proofs.YtihnkijeefkefaaGreat

variable {s t : Zp}

theorem layS_b : ∀ (l : List Nat) (s : Zp) (k : Nat), s.at_ + 8 * (k + l.length) ≤ s.b.length → (s.layS k l).b.length = s.b.length ∧ ∀ i, s.at_ + 8 * (k + l.length) ≤ i → (s.layS k l).b[i]? = s.b[i]?
  | [], s, k, _ => ⟨rfl, fun _ _ => rfl⟩
  | v :: l, s, k, hk => by
    have hk' : s.at_ + 8 * (k + (l.length + 1)) ≤ s.b.length := hk
    have h8 : s.at_ + 8 * k + 8 ≤ s.b.length := by omega
    have hl := wr8_len v h8
    have ih := layS_b l (s.putR k v) (k + 1) (by show s.at_ + 8 * (k + 1 + l.length) ≤ (wr8 s.b (s.at_ + 8 * k) v).length; rw [hl]; omega)
    refine ⟨ih.1.trans hl, fun i hi => ?_⟩
    have hi' : s.at_ + 8 * (k + (l.length + 1)) ≤ i := hi
    exact (ih.2 i (by show s.at_ + 8 * (k + 1 + l.length) ≤ i; omega)).trans (wr8_get v h8 (.inr (by omega)))

/-- a call that went down -/
structure Down (s t : Zp) (f r : Nat) (back : Int) : Prop where
  m : t.m = s.m
  e : t.e = (0, 0)
  f : t.f = f
  pc : t.pc = 0
  le : t.at_ ≤ s.at_
  ls : t.ls = s.ls ++ [⟨s.f, s.at_, back, r⟩]
  bl : t.b.length = s.b.length
  rg : s.rg r = true
theorem Down.ret {f r : Nat} {back : Int} (h : Down s t f r back) (v : Nat) : t.retS v = ({ t with ls := s.ls, f := s.f, at_ := s.at_, pc := back, b := wr8 t.b (s.at_ + 8 * r) v }, 0) := by
  rw [retS_0 (by rw [h.e]) h.ls]
  have hup : t.up ⟨s.f, s.at_, back, r⟩ = { t with ls := s.ls, f := s.f, at_ := s.at_, pc := back } := by
    unfold Zp.up
    rw [h.ls, List.dropLast_concat]
  rw [hup]
  have hrg : ({ t with ls := s.ls, f := s.f, at_ := s.at_, pc := back } : Zp).rg r = true := by
    show isRg t.m s.f r = true
    rw [h.m]
    exact h.rg
  rw [setS_0 (by show t.e.1 = 0; rw [h.e]) hrg]
  rfl
/-- what is there behind the return -/
structure Back (s u : Zp) (r v : Nat) (back : Int) : Prop where
  f : u.f = s.f
  at_ : u.at_ = s.at_
  ls : u.ls.length = s.ls.length
  pc : u.pc = back
  g : u.getS r = (v, 0)
  bl : u.b.length = s.b.length
theorem Down.back {f r : Nat} {back : Int} (h : Down s t f r back) (hs : s.Ok) (he : s.e = (0, 0)) {v : Nat} (hv : v < 18446744073709551616) :
    (t.retS v).2 = 0 ∧ Back s (t.retS v).1 r v back ∧ ∀ i, i < s.at_ + 8 * r ∨ s.at_ + 8 * r + 8 ≤ i → (t.retS v).1.b[i]? = t.b[i]? := by
  rw [h.ret v]
  have hin := hs.inR (by rw [he]) h.rg
  have h8 : s.at_ + 8 * r + 8 ≤ t.b.length := by rw [h.bl]; have := hin.2.2.1; simpa using this
  refine ⟨rfl, ⟨rfl, rfl, rfl, rfl, ?_, (wr8_len v h8).trans h.bl⟩, fun i hi => wr8_get v h8 hi⟩
  rw [getS_0 (by show t.e.1 = 0; rw [h.e]) (by show isRg t.m s.f r = true; rw [h.m]; exact h.rg)]
  show (rd8 (wr8 t.b (s.at_ + 8 * r) v) (s.at_ + 8 * r), (0 : Int)) = (v, 0)
  rw [rd8_wr8 h8 hv]
theorem newS_same (m : Mx) (n : Nat) (inp : List Nat) (fuel : Int) : (newS m n inp fuel).m = m ∧ (newS m n inp fuel).inp = inp ∧ (newS m n inp fuel).ls = [] ∧ (newS m n inp fuel).ds = [] ∧ (newS m n inp fuel).f = 0 ∧ (newS m n inp fuel).fuel = fuel := by
  unfold newS
  split
  · have sm := layS_same (List.replicate (fnOf m 0).p.toNat 0) (sp1 m n inp fuel) 0
    exact ⟨sm.1, sm.2.1, sm.2.2.2.2.2.2.2.2.1, sm.2.2.2.1, sm.2.2.2.2.2.2.1, sm.2.2.2.2.1⟩
  · exact ⟨rfl, rfl, rfl, rfl, rfl, rfl⟩
theorem newS_fit {m : Mx} {n : Nat} (inp : List Nat) (fuel : Int) (h : fits0 m n = true) : (newS m n inp fuel).e = (0, 0) ∧ (newS m n inp fuel).at_ = n - fsz (fnOf m 0) := by
  unfold newS
  rw [h, if_pos rfl]
  have sm := layS_same (List.replicate (fnOf m 0).p.toNat 0) (sp1 m n inp fuel) 0
  exact ⟨sm.2.2.2.2.2.2.2.2.2, sm.2.2.2.2.2.1⟩
theorem newS_end {m : Mx} {n : Nat} (inp : List Nat) (fuel : Int) (h : fits0 m n = false) : (newS m n inp fuel).e = (3, 0) := by
  unfold newS
  rw [h]
  rfl
theorem NewArg.len {m : Mx} {n : Nat} {inp : List Nat} {fuel : Int} (h : NewArg m n inp fuel) : (newS m n inp fuel).b.length = n := by
  unfold newS
  cases hf : fits0 m n
  · exact h.blen
  · rw [if_pos rfl]
    have h1 := h.one hf
    have c := fnOf_ck h.ck h.fi
    have h2 := h1.fit rfl
    refine (layS_b _ _ 0 ?_).1.trans h.blen
    rw [List.length_replicate]
    refine Nat.le_trans ?_ h2
    show _ ≤ (sp1 m n inp fuel).at_ + 8 * (fnOf m 0).r.toNat
    omega

end Go.Proofs.YtihnkijeefkefaaGreat

set_option linter.unusedSimpArgs false
set_option linter.unusedVariables false
set_option linter.unusedSectionVars false
set_option linter.unnecessarySimpa false
set_option maxRecDepth 100000
/- SpaceFull. -/
namespace Go.Proofs.YtihnkijeefkefaaGreat
open Go.RowKit

attribute [local go_sem] Program.isFuncB Program.isSliceB

variable {w w' w'' w0 : World} {p : Nat} {s s' : Zp}

/-- a space of one's own, apart from some blocks -/
def OwnX (w0 w : World) (p : Nat) (s : Zp) (X : Nat → Prop) : Prop := ∃ O R z, SpAt w O R p s z ∧ (∀ k, O k → w0.heap.size ≤ k ∧ ¬ X k) ∧ Fr no w0 w ∧ (∀ k, X k → k < w.heap.size) ∧ ∀ k, R k → ¬ X k
theorem OwnX.fr {X : Nat → Prop} (h : OwnX w0 w p s X) (r : Fr no w w') : OwnX w0 w' p s X := by
  obtain ⟨O, R, z, h, hO, r0, hX, hRX⟩ := h
  exact ⟨O, R, z, h.fr r, hO, r0.trans r, fun k hk => Nat.lt_of_lt_of_le (hX k hk) r.size, hRX⟩
/-- blocks that are new to it may change -/
theorem OwnX.turn {X : Nat → Prop} (h : OwnX w0 w p s X) {S : Nat → Prop} (r : Fr S w w') (hS : ∀ k, S k → X k ∧ w0.heap.size ≤ k) : OwnX w0 w' p s X := by
  obtain ⟨O, R, z, h, hO, r0, hX, hRX⟩ := h
  exact ⟨O, R, z, h.frx r (fun k hk _ => ⟨fun ho => (hO k ho).2 (hS k hk).1, fun hr => hRX k hr (hS k hk).1⟩), hO, r0.trans' r (fun k hk _ => (hS k hk).2), fun k hk => Nat.lt_of_lt_of_le (hX k hk) r.size, hRX⟩
theorem OwnX.frame {X : Nat → Prop} (h : OwnX w0 w p s X) : Fr no w0 w := by
  obtain ⟨O, R, z, h, hO, r0, hX, hRX⟩ := h
  exact r0
theorem OwnX.ok {X : Nat → Prop} (h : OwnX w0 w p s X) : s.Ok := by
  obtain ⟨O, R, z, h, hO, r0, hX, hRX⟩ := h
  exact h.ok
theorem ownx_call {X : Nat → Prop} {f : Nat} {args : Array Value} {r : Ending} (h : OwnX w0 w p s X) (hc : ∀ O R z, SpAt w O R p s z → Calls Tryz.prog f args w fun e w' => e = r ∧ SpTo w w' O R p s') :
    Calls Tryz.prog f args w fun e w' => e = r ∧ OwnX w0 w' p s' X ∧ Fr (fun k => ¬ X k ∧ w0.heap.size ≤ k) w w' := by
  obtain ⟨O, R, z, h, hO, r0, hX, hRX⟩ := h
  refine (hc O R z h).mono ?_
  rintro e w' ⟨rfl, O', z', h', r, -, h2⟩
  exact ⟨rfl, ⟨O', R, z', h', fun k hk => (h2 k hk).elim (fun h => hO k h) (fun h => ⟨Nat.le_trans r0.size h, fun hx => by have := hX k hx; omega⟩), r0.trans' r (fun k hk _ => (hO k hk).1), fun k hk => Nat.lt_of_lt_of_le (hX k hk) r.size, hRX⟩, r.mono (fun k hk _ => ⟨(hO k hk).2, (hO k hk).1⟩)⟩
theorem ownx_pure {X : Nat → Prop} {f : Nat} {args : Array Value} {r : Ending} (h : OwnX w0 w p s X) (hc : ∀ O R z, SpAt w O R p s z → Calls Tryz.prog f args w fun e w' => e = r ∧ w = w') : Calls Tryz.prog f args w fun e w' => e = r ∧ w = w' := by
  obtain ⟨O, R, z, h, hO, r0, hX, hRX⟩ := h
  exact hc O R z h
theorem ownx_fr {X : Nat → Prop} {f : Nat} {args : Array Value} {r : Ending} (h : OwnX w0 w p s X) (hc : ∀ O R z, SpAt w O R p s z → Calls Tryz.prog f args w fun e w' => e = r ∧ Fr no w w') : Calls Tryz.prog f args w fun e w' => e = r ∧ Fr no w w' := by
  obtain ⟨O, R, z, h, hO, r0, hX, hRX⟩ := h
  exact hc O R z h

theorem size_any (w : World) (r a : Int) : Calls Tryz.prog 15 #[.int .i64 r, .int .i64 a] w fun e w' => (∃ y k : Int, e = .returned (.tuple #[.int .i64 y, .int .i64 k])) ∧ w = w' := by
  by_cases h1 : r < 0
  · go_enter Tryz.func15, Tryz.ntmps15
    go_wp2_with fail
    go_ret2
    exact ⟨⟨_, _, rfl⟩, rfl⟩
  by_cases h2 : r > 64
  · go_enter Tryz.func15, Tryz.ntmps15
    go_wp2_with fail
    go_ret2
    exact ⟨⟨_, _, rfl⟩, rfl⟩
  by_cases h3 : a < 0
  · go_enter Tryz.func15, Tryz.ntmps15
    go_wp2_with fail
    go_ret2
    exact ⟨⟨_, _, rfl⟩, rfl⟩
  by_cases h4 : a > 4096
  · go_enter Tryz.func15, Tryz.ntmps15
    go_wp2_with fail
    go_ret2
    exact ⟨⟨_, _, rfl⟩, rfl⟩
  obtain ⟨rn, rfl⟩ : ∃ rn : Nat, r = rn := ⟨r.toNat, by omega⟩
  obtain ⟨an, rfl⟩ : ∃ an : Nat, a = an := ⟨a.toNat, by omega⟩
  refine (size_ok w rn an (by omega) (by omega)).mono ?_
  rintro e w' ⟨rfl, rfl⟩
  exact ⟨⟨_, _, rfl⟩, rfl⟩
theorem ints_rep (n : Nat) : ints (List.replicate n 0) = List.replicate n (.int .i64 0) := by simp [ints]

/-- the law's loop: where the chain is -/
structure FullAt (m : Mx) (n : Nat) (s : Zp) (sum cur : Nat) : Prop where
  em : s.m = m
  run : s.e.1 = 0 → s.f = cur ∧ s.at_ + sum = n
  cu : cur < m.f.length
  su : sum ≤ 100000

/-- a call of zeros -/
theorem call_zero {s : Zp} {k P : Nat} (he : s.e.1 = 0) (hk : k < s.m.f.length) (hP : (fnOf s.m k).p = P) : (s.rg 0 = false → s.callS k (List.replicate P 0) 0 0 = (s, 5)) ∧
    (s.rg 0 = true → s.full k = true → s.callS k (List.replicate P 0) 0 0 = ({ s with e := (3, 0) }, 0)) ∧
    (s.rg 0 = true → s.full k = false → s.callS k (List.replicate P 0) 0 0 = ((s.down k 0 0).layS 0 (s.argsS (List.replicate P 0)), 0)) := by
  have hb : s.badF k (List.replicate P (0 : Int)).length = false := by
    simp only [Zp.badF, List.length_replicate, decide_eq_false_iff_not, not_or, Int.toNat_natCast]
    omega
  refine ⟨fun h => callS_5 he hb (by simp [Zp.badR, h]), fun h hf => callS_f he hb ?_ hf, fun h hf => callS_0 he hb ?_ hf⟩
  · simp only [Zp.badR, h, Bool.or_eq_false_iff]
    refine ⟨⟨rfl, by decide⟩, List.any_eq_false.2 fun r hr => ?_⟩
    rw [List.eq_of_mem_replicate hr, h]
    decide
  · simp only [Zp.badR, h, Bool.or_eq_false_iff]
    refine ⟨⟨rfl, by decide⟩, List.any_eq_false.2 fun r hr => ?_⟩
    rw [List.eq_of_mem_replicate hr, h]
    decide
theorem mayE_zero {e : Dd} (h : e.1 = 0) : ¬ mayE e = true := by
  obtain ⟨k, c⟩ := e
  have h : k = 0 := h
  subst h
  rw [mayE_else 0 c (by decide) (by decide) (by decide) (by decide)]
  decide
theorem neg_eq {s : Zp} (h : s.rg 0 = false) (hr : 0 ≤ (fnOf s.m s.f).r) : (fnOf s.m s.f).r = 0 := by
  simp only [Zp.rg, isRg, decide_eq_false_iff_not] at h
  omega
theorem full_is {m : Mx} {n k ft sum cur : Nat} {s : Zp} (hfa : FullAt m n s sum cur) (hft : fsz (fnOf m k) = ft) : s.full k = decide (s.at_ < flr m + ft ∨ 256 ≤ s.ls.length) := by
  unfold Zp.full
  rw [hfa.em, Int.toNat_natCast, hft]
theorem down_facts {m : Mx} {n k P ft sum cur : Nat} {s : Zp} (hfa : FullAt m n s sum cur) (he : s.e = (0, 0)) (hk : k < m.f.length) (hft : fsz (fnOf m k) = ft) (h2 : ft ≤ 10000) (hn : n ≤ 4000) (hfu : s.full k = false) :
    ∃ s2, (s.down k 0 0).layS 0 (s.argsS (List.replicate P 0)) = s2 ∧ s2.e = (0, 0) ∧ s2.ls.length = s.ls.length + 1 ∧ FullAt m n s2 (sum + ft) k ∧ s.ls.length < 256 ∧ sum + ft + flr m ≤ n := by
  rw [full_is hfa hft] at hfu
  have hfu := of_decide_eq_false hfu
  have hr := hfa.run (by rw [he])
  have sm := layS_same (s.argsS (List.replicate P 0)) (s.down k 0 0) 0
  refine ⟨_, rfl, by rw [sm.2.2.2.2.2.2.2.2.2]; exact he, by rw [sm.2.2.2.2.2.2.2.2.1]; simp [Zp.down], ⟨by rw [sm.1]; exact hfa.em, fun _ => ⟨by rw [sm.2.2.2.2.2.2.1]; simp [Zp.down], ?_⟩, hk, by omega⟩, by omega, by omega⟩
  rw [sm.2.2.2.2.2.1]
  have : (s.down k 0 0).at_ = s.at_ - ft := by simp [Zp.down, hfa.em, hft]
  rw [this]
  omega
theorem full_facts {m : Mx} {n k ft sum cur : Nat} {s : Zp} (hfa : FullAt m n s sum cur) (he : s.e = (0, 0)) (hk : k < m.f.length) (hft : fsz (fnOf m k) = ft) (h2 : ft ≤ 10000) (hn : n ≤ 4000) (hfu : s.full k = true) :
    ∃ s2, ({ s with e := (3, 0) } : Zp) = s2 ∧ s2.e = (3, 0) ∧ FullAt m n s2 (sum + ft) k ∧ (256 ≤ s.ls.length ∨ (s.ls.length < 256 ∧ n < sum + ft + flr m)) := by
  rw [full_is hfa hft] at hfu
  have hfu := of_decide_eq_true hfu
  have hr := hfa.run (by rw [he])
  exact ⟨_, rfl, rfl, ⟨hfa.em, fun h => absurd h (by show ¬ ((3 : Int) = 0); decide), hk, by omega⟩, by omega⟩
theorem chain_step {m : Mx} {n k P ft sum cur : Nat} {s : Zp} (hfa : FullAt m n s sum cur) (he : s.e = (0, 0)) (hk : k < m.f.length) (hft : fsz (fnOf m k) = ft) (h2 : ft ≤ 10000) (hn : n ≤ 4000) (hP : (fnOf m k).p = P) (hrg : s.rg 0 = true) :
    (∃ s2, s.callS k (List.replicate P 0) 0 0 = (s2, 0) ∧ s2.e = (0, 0) ∧ s2.ls.length = s.ls.length + 1 ∧ FullAt m n s2 (sum + ft) k ∧ s.ls.length < 256 ∧ sum + ft + flr m ≤ n) ∨
    (∃ s2, s.callS k (List.replicate P 0) 0 0 = (s2, 0) ∧ s2.e = (3, 0) ∧ FullAt m n s2 (sum + ft) k ∧ (256 ≤ s.ls.length ∨ (s.ls.length < 256 ∧ n < sum + ft + flr m))) := by
  have hcz := call_zero (s := s) (k := k) (P := P) (by rw [he]) (by rw [hfa.em]; exact hk) (by rw [hfa.em]; exact hP)
  cases hfu : s.full k
  · left
    obtain ⟨s2, hs2, h3⟩ := down_facts (P := P) hfa he hk hft h2 hn hfu
    exact ⟨s2, by rw [hcz.2.2 hrg hfu, hs2], h3⟩
  · right
    obtain ⟨s2, hs2, h3⟩ := full_facts hfa he hk hft h2 hn hfu
    exact ⟨s2, by rw [hcz.2.1 hrg hfu, hs2], h3⟩
theorem call_to {w : World} {p f : Nat} {args : Array Value} {s s2 : Zp} {q : Zp × Int} {c : Int} (hc : ∀ O R z, SpAt w O R p s z → Calls Tryz.prog f args w fun e w' => e = .returned (.int .i64 q.2) ∧ SpTo w w' O R p q.1) (hq : q = (s2, c)) :
    ∀ O R z, SpAt w O R p s z → Calls Tryz.prog f args w fun e w' => e = .returned (.int .i64 c) ∧ SpTo w w' O R p s2 := by
  subst hq
  exact hc
attribute [local irreducible] Zp.callS Zp.layS Zp.down Zp.argsS newS
set_option maxHeartbeats 16000000 in
theorem full15_ok (w : World) (m : Mx) (da : Option Addr) (dc : Nat) (fa : Option Addr) (fc : Nat) (mem : Int) (la : Option Addr) (lc : Nat) (l : List Int) (hm : ModRd w m da dc fa fc) (hraw : m.Raw) (hwf : (Lit.int .i64 mem).wf = true)
    (hl : Reads w (.slice la l.length lc) 1 l.length (ints l)) (hlw : ∀ t ∈ l, (Lit.int .i64 t).wf = true) (hll : l.length ≤ maxLen) :
    Calls Tryz.prog 3 #[.agg #[.slice da m.d.length dc, .slice fa m.f.length fc], .int .i64 mem, .slice la l.length lc] w fun e w' => e = .returned (.bool true) ∧ Fr no w w' := by
  have r1 := (Fr.refl no w).alloc (.cells #[.slice da m.d.length dc, .slice fa m.f.length fc] 25)
  have hb1 := heap_new w (.cells #[.slice da m.d.length dc, .slice fa m.f.length fc] 25)
  have R1 := Lib.hid r1
  have HB := Lib.hid hb1
  have HM := Lib.hid hm
  have HL := Lib.hid hl
  have HLW := Lib.hid hlw
  have HRAW := Lib.hid hraw
  unfold maxLen at hll
  clear r1 hb1 hm hl hlw hraw
  go_enter Tryz.func3, Tryz.ntmps3
  go_wp2_with fail
  refine (awake15_ok _).mono ?_
  rintro e w1 ⟨rfl, r1⟩
  have R2 := Lib.hid (R1.out.trans r1)
  have HB2 := Lib.hid (r1.heap HB.out (by simp))
  clear r1
  go_wp2_with fail
  refine (pick_any w1 mem 250 hwf (by decide) (by decide)).mono ?_
  rintro e w' ⟨⟨kk, hkk, rfl⟩, rfl⟩
  have hw1 : IntKind.i64.wrap (1 + (kk : Int)) = 1 + (kk : Int) := by rw [IntKind.wrap_i64]; omega
  have hw2 : IntKind.i64.wrap (16 * (1 + (kk : Int))) = ((16 * (1 + kk) : Nat) : Int) := by rw [IntKind.wrap_i64]; omega
  obtain ⟨n, hn⟩ : ∃ n, n = 16 * (1 + kk) := ⟨_, rfl⟩
  have HN : Hid (16 ≤ n ∧ n ≤ 4000 ∧ n % 16 = 0) := Lib.hid (by omega)
  rw [← hn] at hw2
  clear hn hkk hwf
  have m0 := cell_of_heap (o := 0) HB2.out rfl
  have m1 := cell_of_heap (o := 1) HB2.out rfl
  go_wp2_with fail
  refine (longm_ok w1 m da dc fa fc (HM.out.fr R2.out).modIn HRAW.out).mono ?_
  rintro e w3 ⟨q, rfl, hq, r3⟩
  have R3 := Lib.hid (R2.out.trans r3)
  have hb3 := r3.heap HB2.out (by simp)
  have HB3 := Lib.hid hb3
  have n0 := cell_of_heap (o := 0) hb3 rfl
  have n1 := cell_of_heap (o := 1) hb3 rfl
  clear m0 m1 r3 hb3
  cases q
  case true =>
    clear hq
    go_wp2_with fail
    go_ret
    exact ⟨rfl, R3.out⟩
  have HF := Lib.hid (hq rfl)
  clear hq
  by_cases hf0 : m.f.length = 0
  · have hfe : ((m.f.length : Int) == 0) = true := beq_iff_eq.2 (by omega)
    go_wp2_with fail
    go_ret
    exact ⟨rfl, R3.out⟩
  have hfe : ((m.f.length : Int) == 0) = false := beq_eq_false_iff_ne.2 (by omega)
  have HF0 : Hid (0 < m.f.length) := Lib.hid (by omega)
  clear hf0
  by_cases hl3 : l.length > 300
  · have hl3' : (l.length : Int) > 300 := by omega
    go_wp2_with fail
    go_ret
    exact ⟨rfl, R3.out⟩
  have hl3' : ¬ (l.length : Int) > 300 := by omega
  have HSM : Hid m.Small := Lib.hid (LongM.small HRAW.out HF.out)
  have HMR := Lib.hid (HM.out.fr R3.out)
  have FN : Hid (∀ w', Fr no w w' → ∀ k, k < m.f.length → ∃ gb go, fa = some ⟨gb, go, none⟩ ∧ w'.cell? ⟨gb, go + k * 4, none⟩ = some (.int .i64 (fnOf m k).p) ∧ w'.cell? ⟨gb, go + k * 4 + 1, none⟩ = some (.int .i64 (fnOf m k).r) ∧ w'.cell? ⟨gb, go + k * 4 + 2, none⟩ = some (.int .i64 (fnOf m k).a)) := Lib.hid (fun w' r k hk => by
    obtain ⟨b, o, ca, cc, e1, e2⟩ := (HM.out.fr r).modIn.fns k hk
    have h4 := e2.four
    rw [← fnOf_get hk] at h4
    exact ⟨b, o, e1, h4.1, h4.2.1, h4.2.2.1⟩)
  go_upto_region 5 with (fail)
  go_wp2_with fail
  have HMR0 := HMR.out
  by_cases hb : newBad m n 0
  case pos =>
    clear hfe hl3 hl3'
    refine (snew_bad (inp := []) (ia := none) (ic := 0) w3 HMR0 HSM.out hb).mono ?_
    rintro e w4 ⟨rfl, r4⟩
    have hb4 := r4.heap HB3.out (by simp)
    have HB4 := Lib.hid hb4
    have R4 := Lib.hid (R3.out.trans r4)
    have k0 := cell_of_heap (o := 0) hb4 rfl
    clear n0 n1 r4 hb4
    go_wp2_with fail
    refine (floor_ok _ m.d.length (by have := HF.out.1; omega)).mono ?_
    rintro e w' ⟨rfl, rfl⟩
    clear k0
    go_upto_region 7 with (fail)
    have R5 := Lib.hid (R4.out.trans (Fr.refl no w4).drew)
    obtain ⟨gb, go, hfa, -, c1, c2⟩ := FN.out _ R5.out 0 HF0.out
    rw [Nat.zero_mul, Nat.add_zero] at c1 c2
    generalize (fnOf m 0).r = r0 at *
    generalize (fnOf m 0).a = a0 at *
    have S5 : Hid ((fun w' : World => w'.cell? ⟨w.heap.size, 1, none⟩ = some (.slice (some ⟨gb, go, none⟩) m.f.length fc) ∧ w'.cell? ⟨gb, go + 1, none⟩ = some (.int .i64 r0) ∧ w'.cell? ⟨gb, go + 2, none⟩ = some (.int .i64 a0)) w4.drew) := Lib.hid ⟨by rw [← hfa]; exact cell_of_heap (w := w4.drew) HB4.out rfl, c1, c2⟩
    have hfl0 : 0 < m.f.length := HF0.out
    clear c1 c2 hfa
    refine Lex.region [10] [15, 1] (by kernel_rfl) (by kernel_rfl) ?_
    refine Lex.opens (fun w' => w'.cell? ⟨w.heap.size, 1, none⟩ = some (.slice (some ⟨gb, go, none⟩) m.f.length fc) ∧ w'.cell? ⟨gb, go + 1, none⟩ = some (.int .i64 r0) ∧ w'.cell? ⟨gb, go + 2, none⟩ = some (.int .i64 a0)) (S5.out) ?_
    repeat (first
      | (refine Lex.skips (by rfl) ?_; (try simp only [Act.put, List.setIfInBounds_toArray, List.set_cons_zero, List.set_cons_succ]))
      | (refine Lex.quiet (v := ?_) (by rfl) (by rfl) ?_ ?_; rotate_left; (focus (intro w' hS'; go_simp; try rfl)); (try simp only [Act.put, List.setIfInBounds_toArray, List.set_cons_zero, List.set_cons_succ])))
    refine Lex.loud (by rfl) (by rfl) ?_
    intro K' hK'
    go_simp
    refine (size_any _ r0 a0).mono ?_
    rintro e w' ⟨⟨y, kx, rfl⟩, rfl⟩
    refine hK' _ _ (S5.out) ?_
    clear hK'
    try simp only [Act.put, List.setIfInBounds_toArray, List.set_cons_zero, List.set_cons_succ]
    repeat (first
      | (refine Lex.skips (by rfl) ?_; (try simp only [Act.put, List.setIfInBounds_toArray, List.set_cons_zero, List.set_cons_succ]))
      | (refine Lex.quiet (v := ?_) (by rfl) (by rfl) ?_ ?_; rotate_left; (focus (intro w' hS'; go_simp; try rfl)); (try simp only [Act.put, List.setIfInBounds_toArray, List.set_cons_zero, List.set_cons_succ])))
    refine Lex.done ?_
    refine Lex.opens (fun _ => True) (trivial) ?_
    repeat (first
      | (refine Lex.skips (by rfl) ?_; (try simp only [Act.put, List.setIfInBounds_toArray, List.set_cons_zero, List.set_cons_succ]))
      | (refine Lex.quiet (v := ?_) (by rfl) (by rfl) ?_ ?_; rotate_left; (focus (intro w' hS'; go_simp; try rfl)); (try simp only [Act.put, List.setIfInBounds_toArray, List.set_cons_zero, List.set_cons_succ])))
    refine Lex.done ?_
    refine Lex.ends ?_
    go_wp2_with fail
    go_ret
    exact ⟨rfl, R5.out⟩
  case neg =>
    clear hfe hl3 hl3'
    by_cases hfl : (n : Int) < flr m
    · refine (snew_full (inp := []) (ia := none) (ic := 0) w3 HMR0 HSM.out (.inl ⟨rfl, rfl, rfl⟩) (by decide) hb hfl).mono ?_
      rintro e w4 ⟨rfl, r4⟩
      have hb4 := r4.heap HB3.out (by simp)
      have HB4 := Lib.hid hb4
      have R4 := Lib.hid (R3.out.trans r4)
      have k0 := cell_of_heap (o := 0) hb4 rfl
      clear n0 n1 r4 hb4
      go_wp2_with fail
      refine (floor_ok _ m.d.length (by have := HF.out.1; omega)).mono ?_
      rintro e w' ⟨rfl, rfl⟩
      clear k0
      go_upto_region 7 with (fail)
      have R5 := Lib.hid (R4.out.trans (Fr.refl no w4).drew)
      obtain ⟨gb, go, hfa, -, c1, c2⟩ := FN.out _ R5.out 0 HF0.out
      rw [Nat.zero_mul, Nat.add_zero] at c1 c2
      generalize (fnOf m 0).r = r0 at *
      generalize (fnOf m 0).a = a0 at *
      have S5 : Hid ((fun w' : World => w'.cell? ⟨w.heap.size, 1, none⟩ = some (.slice (some ⟨gb, go, none⟩) m.f.length fc) ∧ w'.cell? ⟨gb, go + 1, none⟩ = some (.int .i64 r0) ∧ w'.cell? ⟨gb, go + 2, none⟩ = some (.int .i64 a0)) w4.drew) := Lib.hid ⟨by rw [← hfa]; exact cell_of_heap (w := w4.drew) HB4.out rfl, c1, c2⟩
      have hfl0 : 0 < m.f.length := HF0.out
      clear c1 c2 hfa
      refine Lex.region [10] [15, 1] (by kernel_rfl) (by kernel_rfl) ?_
      refine Lex.opens (fun w' => w'.cell? ⟨w.heap.size, 1, none⟩ = some (.slice (some ⟨gb, go, none⟩) m.f.length fc) ∧ w'.cell? ⟨gb, go + 1, none⟩ = some (.int .i64 r0) ∧ w'.cell? ⟨gb, go + 2, none⟩ = some (.int .i64 a0)) (S5.out) ?_
      repeat (first
        | (refine Lex.skips (by rfl) ?_; (try simp only [Act.put, List.setIfInBounds_toArray, List.set_cons_zero, List.set_cons_succ]))
        | (refine Lex.quiet (v := ?_) (by rfl) (by rfl) ?_ ?_; rotate_left; (focus (intro w' hS'; go_simp; try rfl)); (try simp only [Act.put, List.setIfInBounds_toArray, List.set_cons_zero, List.set_cons_succ])))
      refine Lex.loud (by rfl) (by rfl) ?_
      intro K' hK'
      go_simp
      refine (size_any _ r0 a0).mono ?_
      rintro e w' ⟨⟨y, kx, rfl⟩, rfl⟩
      refine hK' _ _ (S5.out) ?_
      clear hK'
      try simp only [Act.put, List.setIfInBounds_toArray, List.set_cons_zero, List.set_cons_succ]
      repeat (first
        | (refine Lex.skips (by rfl) ?_; (try simp only [Act.put, List.setIfInBounds_toArray, List.set_cons_zero, List.set_cons_succ]))
        | (refine Lex.quiet (v := ?_) (by rfl) (by rfl) ?_ ?_; rotate_left; (focus (intro w' hS'; go_simp; try rfl)); (try simp only [Act.put, List.setIfInBounds_toArray, List.set_cons_zero, List.set_cons_succ])))
      refine Lex.done ?_
      refine Lex.opens (fun _ => True) (trivial) ?_
      repeat (first
        | (refine Lex.skips (by rfl) ?_; (try simp only [Act.put, List.setIfInBounds_toArray, List.set_cons_zero, List.set_cons_succ]))
        | (refine Lex.quiet (v := ?_) (by rfl) (by rfl) ?_ ?_; rotate_left; (focus (intro w' hS'; go_simp; try rfl)); (try simp only [Act.put, List.setIfInBounds_toArray, List.set_cons_zero, List.set_cons_succ])))
      refine Lex.done ?_
      refine Lex.ends ?_
      go_wp2_with fail
      go_ret
      exact ⟨rfl, R5.out⟩
    · have har : NewArg m n [] 0 := ⟨Decidable.not_not.1 (fun h => hb (.inl h)), HSM.out, HN.out.1, by have := HN.out.2.1; omega, HN.out.2.2, by omega, by decide, fun x hx => (by cases hx), by decide, by decide⟩
      have hnew := snew_ok (inp := []) (ia := none) (ic := 0) w3 HMR0 HSM.out (.inl ⟨rfl, rfl, rfl⟩) (by decide) (fun x hx => by cases hx) hb (by omega)
      rw [Int.toNat_natCast] at hnew
      refine hnew.mono ?_
      rintro e w4 ⟨p, O, R, z, rfl, hna⟩
      clear hnew hfl hb
      have hnx := newS_same m n [] 0
      obtain ⟨hsp, hO, hR, r4⟩ := hna
      have hb4 := r4.heap HB3.out (by simp)
      have HB4 := Lib.hid hb4
      have R4 := Lib.hid (R3.out.trans r4)
      have HLT4 : Hid (w.heap.size < w3.heap.size) := Lib.hid (Array.getElem?_eq_some_iff.1 HB3.out).1
      have HSP := Lib.hid hsp
      have HO4 : Hid (∀ k, O k → w3.heap.size ≤ k) := Lib.hid hO
      have HR4 : Hid (∀ k, R k → w3.heap.size ≤ k) := Lib.hid hR
      have HOK := Lib.hid hsp.ok
      have HNX := Lib.hid hnx
      have HNA := Lib.hid har
      have k0 := cell_of_heap (o := 0) hb4 rfl
      clear n0 n1 r4 hb4 hsp hO hR hnx har
      go_wp2_with fail
      refine (floor_ok _ m.d.length (by have := HF.out.1; omega)).mono ?_
      rintro e w' ⟨rfl, rfl⟩
      rw [show r16 (16 + m.d.length) = flr m from (flr_r16 m).symm]
      clear k0
      go_upto_region 7 with (fail)
      have R5 := Lib.hid (R4.out.trans (Fr.refl no w4).drew)
      have H5 := Lib.hid (HSP.out.fr (Fr.refl no w4).drew)
      have HB5 : Hid (w4.drew.heap[w.heap.size]? = some (.cells #[.slice da m.d.length dc, .slice fa m.f.length fc] 25 (0, 0))) := Lib.hid HB4.out
      obtain ⟨gb, go, hfa, -, c1, c2⟩ := FN.out _ R5.out 0 HF0.out
      rw [Nat.zero_mul, Nat.add_zero] at c1 c2
      have c := fnOf_ck HNA.out.ck HF0.out
      obtain ⟨rn, hrn⟩ : ∃ rn : Nat, (fnOf m 0).r = rn := ⟨(fnOf m 0).r.toNat, by omega⟩
      obtain ⟨an, han⟩ : ∃ an : Nat, (fnOf m 0).a = an := ⟨(fnOf m 0).a.toNat, by omega⟩
      have hrn64 : rn ≤ 64 := by omega
      have han96 : an ≤ 4096 := by omega
      have HFS : Hid (fsz (fnOf m 0) = r16 (8 * rn + an)) := Lib.hid (by rw [fsz_r16 (by omega) (by omega), hrn, han]; rfl)
      have HFZ : Hid (r16 (8 * rn + an) ≤ 10000) := Lib.hid (by unfold r16; omega)
      rw [hrn] at c1
      rw [han] at c2
      have S5 : Hid ((fun w' : World => w'.cell? ⟨w.heap.size, 1, none⟩ = some (.slice (some ⟨gb, go, none⟩) m.f.length fc) ∧ w'.cell? ⟨gb, go + 1, none⟩ = some (.int .i64 rn) ∧ w'.cell? ⟨gb, go + 2, none⟩ = some (.int .i64 an)) w4.drew) := Lib.hid ⟨by rw [← hfa]; exact cell_of_heap (w := w4.drew) HB4.out rfl, c1, c2⟩
      have hfl0 : 0 < m.f.length := HF0.out
      clear c1 c2 hfa hrn han c
      refine Lex.region [10] [15, 1] (by kernel_rfl) (by kernel_rfl) ?_
      refine Lex.opens (fun w' => w'.cell? ⟨w.heap.size, 1, none⟩ = some (.slice (some ⟨gb, go, none⟩) m.f.length fc) ∧ w'.cell? ⟨gb, go + 1, none⟩ = some (.int .i64 rn) ∧ w'.cell? ⟨gb, go + 2, none⟩ = some (.int .i64 an)) (S5.out) ?_
      repeat (first
        | (refine Lex.skips (by rfl) ?_; (try simp only [Act.put, List.setIfInBounds_toArray, List.set_cons_zero, List.set_cons_succ]))
        | (refine Lex.quiet (v := ?_) (by rfl) (by rfl) ?_ ?_; rotate_left; (focus (intro w' hS'; go_simp; try rfl)); (try simp only [Act.put, List.setIfInBounds_toArray, List.set_cons_zero, List.set_cons_succ])))
      refine Lex.loud (by rfl) (by rfl) ?_
      intro K' hK'
      go_simp
      refine (size_ok _ rn an hrn64 han96).mono ?_
      rintro e w' ⟨rfl, rfl⟩
      refine hK' _ _ (S5.out) ?_
      clear hK'
      try simp only [Act.put, List.setIfInBounds_toArray, List.set_cons_zero, List.set_cons_succ]
      repeat (first
        | (refine Lex.skips (by rfl) ?_; (try simp only [Act.put, List.setIfInBounds_toArray, List.set_cons_zero, List.set_cons_succ]))
        | (refine Lex.quiet (v := ?_) (by rfl) (by rfl) ?_ ?_; rotate_left; (focus (intro w' hS'; go_simp; try rfl)); (try simp only [Act.put, List.setIfInBounds_toArray, List.set_cons_zero, List.set_cons_succ])))
      refine Lex.done ?_
      refine Lex.opens (fun _ => True) (trivial) ?_
      repeat (first
        | (refine Lex.skips (by rfl) ?_; (try simp only [Act.put, List.setIfInBounds_toArray, List.set_cons_zero, List.set_cons_succ]))
        | (refine Lex.quiet (v := ?_) (by rfl) (by rfl) ?_ ?_; rotate_left; (focus (intro w' hS'; go_simp; try rfl)); (try simp only [Act.put, List.setIfInBounds_toArray, List.set_cons_zero, List.set_cons_succ])))
      refine Lex.done ?_
      refine Lex.ends ?_
      obtain ⟨fz, hfz⟩ : ∃ fz, fz = r16 (8 * rn + an) := ⟨_, rfl⟩
      rw [← hfz] at HFS HFZ ⊢
      clear hfz S5 hrn64 han96
      generalize w4.drew = w5 at *
      obtain ⟨rm, hrm⟩ : ∃ rm : Nat, rm = n - flr m := ⟨_, rfl⟩
      have hfln := HNA.out.fl
      have hw3 : IntKind.i64.wrap (flr m : Int) = flr m := by have := HN.out.2.1; rw [IntKind.wrap_i64]; omega
      have hw4 : IntKind.i64.wrap ((n : Int) - flr m) = rm := by have := HN.out.2.1; rw [IntKind.wrap_i64]; omega
      have HRM : Hid (rm + flr m = n) := Lib.hid (by omega)
      clear hrm hfln
      go_wp2_with fail
      refine (send_ok w5 H5.out).mono ?_
      cases hft : fits0 m n
      · rw [newS_end [] 0 hft]
        have hgt : (fz : Int) > rm := by have := of_decide_eq_false hft; have := HFS.out; have := HRM.out; omega
        rintro e w6 ⟨rfl, r6⟩
        have RF := Lib.hid (R5.out.trans (r6.trans ((Fr.refl no w6).alloc (.cells #[.int .i64 3, .int .i64 0] 43))))
        clear r6
        go_wp2_with fail
        generalize w6.alloc (.cells #[.int .i64 3, .int .i64 0] 43) = w7 at *
        go_loopw [12, 15, 17, 18] (fun a b c d wr => b = .bool true ∧ d = .int .i64 0 ∧ wr = w7) (fun _ _ _ _ _ => 0)
        case atStart => exact ⟨rfl, rfl, rfl⟩
        case round =>
          obtain ⟨rfl, rfl, rfl⟩ := hrel
          by_cases hl0 : 0 < l.length
          · have hl0' : (0 : Int) < l.length := by omega
            go_wp2_with fail
            go_ret
            exact ⟨rfl, RF.out⟩
          · have hl0' : ¬ (0 : Int) < l.length := by omega
            go_wp2_with fail
            go_ret
            exact ⟨rfl, RF.out⟩
      · have hnf := newS_fit (m := m) (n := n) [] 0 hft
        rw [hnf.1]
        have hgt : ¬ (fz : Int) > rm := by have := of_decide_eq_true hft; have := HFS.out; have := HRM.out; omega
        have hdecN : decide (rm < fz) = false := decide_eq_false (by omega)
        have hdecI : decide ((rm : Int) < fz) = false := decide_eq_false (by omega)
        have HFA : Hid (FullAt m n (newS m n [] 0) fz 0 ∧ (newS m n [] 0).e.1 = 0) := Lib.hid ⟨⟨HNX.out.1, fun _ => ⟨HNX.out.2.2.2.2.1, by rw [hnf.2, HFS.out]; have := of_decide_eq_true hft; have := HFS.out; omega⟩, HF0.out, by have := HFZ.out; omega⟩, by rw [hnf.1]⟩
        rintro e w6 ⟨rfl, r6⟩
        have q7 := (Fr.refl no w6).alloc (.cells #[.int .i64 0, .int .i64 0] 43)
        have e7 := heap_new w6 (.cells #[.int .i64 0, .int .i64 0] 43)
        have HX7 : Hid (OwnX w (w6.alloc (.cells #[.int .i64 0, .int .i64 0] 43)) p (newS m n [] 0) (fun k => k = w.heap.size ∨ k = w6.heap.size)) := Lib.hid ⟨O, R, z, (H5.out.fr r6).fr q7, fun k hk => ⟨by have := HO4.out k hk; have := HLT4.out; omega, fun hx => by
          have h1 := HO4.out k hk; have h2 := HLT4.out; have h3 := (H5.out.fr r6).lt k (.inl hk)
          rcases hx with hx | hx <;> omega⟩, R5.out.trans (r6.trans q7), fun k hk => by
          have h2 := HLT4.out; have h3 := (r6.trans q7).size; have h4 := R4.out.size
          have h5 := (Array.getElem?_eq_some_iff.1 e7).1
          have h6 := (Array.getElem?_eq_some_iff.1 (q7.heap (r6.heap HB5.out (by simp)) (by simp))).1
          rcases hk with hk | hk <;> (subst hk; assumption), fun k hk hx => by
          have h1 := HR4.out k hk; have h2 := HLT4.out; have h3 := (H5.out.fr r6).lt k (.inr hk)
          rcases hx with hx | hx <;> omega⟩
        have E7 := Lib.hid e7
        have B7 := Lib.hid (q7.heap (r6.heap HB5.out (by simp)) (by simp))
        have EB : Hid (w.heap.size ≤ w6.heap.size) := Lib.hid (Nat.le_trans R5.out.size r6.size)
        have v0 := cell_of_heap (o := 0) e7 rfl
        clear r6 q7 e7 hnf
        go_upto_region 14 with (fail)
        generalize w6.alloc (.cells #[.int .i64 0, .int .i64 0] 43) = w7 at *
        clear v0
        go_wp2_with fail
        go_loopw [12, 15, 17, 18] (fun a b c d wr => ∃ (j sum cur : Nat) (bb : Bool) (s : Zp), j ≤ l.length ∧ d = .int .i64 j ∧ a = .int .i64 sum ∧ b = .bool bb ∧ c = .int .i64 cur ∧ Hid (bb = (s.e.1 != 0)) ∧ Hid (FullAt m n s sum cur) ∧ Hid (OwnX w wr p s (fun k => k = w.heap.size ∨ k = w6.heap.size)) ∧ Hid (wr.heap[w.heap.size]? = some (.cells #[.slice da m.d.length dc, .slice fa m.f.length fc] 25 (0, 0))) ∧ Hid (∃ a b, wr.heap[w6.heap.size]? = some (.cells #[a, b] 43 (0, 0)))) (fun _ _ _ d _ => (l.length - intOf d).toNat)
        case atStart => exact ⟨0, fz, 0, false, _, by omega, by simp, rfl, rfl, by simp, Lib.hid (by rw [HFA.out.2]; rfl), Lib.hid HFA.out.1, HX7, B7, Lib.hid ⟨_, _, E7.out⟩⟩
        case round =>
          obtain ⟨j, sum, cur, bb, s, hj, rfl, rfl, rfl, rfl, hbb, hfa, hx, hbm, heb⟩ := hrel
          cases bb
          case true =>
            by_cases hjl : j < l.length
            · have hlt : (j : Int) < l.length := by omega
              go_wp2_with fail
              go_ret
              exact ⟨rfl, hx.out.frame⟩
            · have hlt : ¬ (j : Int) < l.length := by omega
              go_wp2_with fail
              go_ret
              exact ⟨rfl, hx.out.frame⟩
          case false =>
            by_cases hjl : j < l.length
            case neg =>
              have hlt : ¬ (j : Int) < l.length := by omega
              go_wp2_with fail
              go_ret
              exact ⟨rfl, hx.out.frame⟩
            have hlt : (j : Int) < l.length := by omega
            have he : s.e.1 = 0 := by have := hbb.out; simpa using this
            have HE := Lib.hid he
            have HE0 : Hid (s.e = (0, 0)) := Lib.hid (by
              rcases hx.out.ok.em with h | h
              · exact h
              · exact absurd h (mayE_zero he))
            obtain ⟨vb, vo, rfl, hc⟩ := (HL.out.fr hx.out.frame (by simp)).at1 (k := j) (u := .int .i64 l[j]) (by simp [ints, hjl])
            have HWF := Lib.hid (HLW.out l[j] (List.getElem_mem hjl))
            generalize l[j] = lj at *
            go_upto_region 18 with (fail)
            have SA : Hid (wr.drew.cell? ⟨vb, vo + j, none⟩ = some (.int .i64 lj) ∧ wr.drew.cell? ⟨w.heap.size, 1, none⟩ = some (.slice fa m.f.length fc)) := Lib.hid ⟨hc, cell_of_heap (w := wr.drew) hbm.out rfl⟩
            clear hc he
            refine Lex.region [7] [8, 1] (by kernel_rfl) (by kernel_rfl) ?_
            refine Lex.opens (fun w' => w'.cell? ⟨vb, vo + j, none⟩ = some (.int .i64 lj) ∧ w'.cell? ⟨w.heap.size, 1, none⟩ = some (.slice fa m.f.length fc)) (SA.out) ?_
            repeat (first
              | (refine Lex.skips (by rfl) ?_; (try simp only [Act.put, List.setIfInBounds_toArray, List.set_cons_zero, List.set_cons_succ]))
              | (refine Lex.quiet (v := ?_) (by rfl) (by rfl) ?_ ?_; rotate_left; (focus (intro w' hS'; go_simp; try rfl)); (try simp only [Act.put, List.setIfInBounds_toArray, List.set_cons_zero, List.set_cons_succ])))
            refine Lex.loud (by rfl) (by rfl) ?_
            intro K' hK'
            go_simp
            refine (pick_any _ lj m.f.length HWF.out HF0.out (by have := HF.out.2.1; omega)).mono ?_
            rintro e w' ⟨⟨tt, hto, rfl⟩, rfl⟩
            refine hK' _ _ (SA.out) ?_
            clear hK'
            try simp only [Act.put, List.setIfInBounds_toArray, List.set_cons_zero, List.set_cons_succ]
            repeat (first
              | (refine Lex.skips (by rfl) ?_; (try simp only [Act.put, List.setIfInBounds_toArray, List.set_cons_zero, List.set_cons_succ]))
              | (refine Lex.quiet (v := ?_) (by rfl) (by rfl) ?_ ?_; rotate_left; (focus (intro w' hS'; go_simp; try rfl)); (try simp only [Act.put, List.setIfInBounds_toArray, List.set_cons_zero, List.set_cons_succ])))
            refine Lex.done ?_
            refine Lex.opens (fun _ => True) (trivial) ?_
            repeat (first
              | (refine Lex.skips (by rfl) ?_; (try simp only [Act.put, List.setIfInBounds_toArray, List.set_cons_zero, List.set_cons_succ]))
              | (refine Lex.quiet (v := ?_) (by rfl) (by rfl) ?_ ?_; rotate_left; (focus (intro w' hS'; go_simp; try rfl)); (try simp only [Act.put, List.setIfInBounds_toArray, List.set_cons_zero, List.set_cons_succ])))
            refine Lex.done ?_
            refine Lex.ends ?_
            go_upto_region 19 with (fail)
            have HTO := Lib.hid hto
            have rd := (Fr.refl no wr).drew.trans (Fr.refl no wr.drew).drew
            have HX9 := Lib.hid (hx.out.fr rd)
            have B9 : Hid (wr.drew.drew.heap[w.heap.size]? = some (.cells #[.slice da m.d.length dc, .slice fa m.f.length fc] 25 (0, 0))) := Lib.hid hbm.out
            have E9 : Hid (∃ a b, wr.drew.drew.heap[w6.heap.size]? = some (.cells #[a, b] 43 (0, 0))) := Lib.hid heb.out
            obtain ⟨gb, go, hfe, cp, cr, ca⟩ := FN.out _ HX9.out.frame tt hto
            have c := fnOf_ck HNA.out.ck hto
            obtain ⟨rt, hrt⟩ : ∃ rt : Nat, (fnOf m tt).r = rt := ⟨(fnOf m tt).r.toNat, by omega⟩
            obtain ⟨at_, hat⟩ : ∃ at_ : Nat, (fnOf m tt).a = at_ := ⟨(fnOf m tt).a.toNat, by omega⟩
            obtain ⟨pt, hpt⟩ : ∃ pt : Nat, (fnOf m tt).p = pt := ⟨(fnOf m tt).p.toNat, by omega⟩
            have hrt64 : rt ≤ 64 := by omega
            have hat96 : at_ ≤ 4096 := by omega
            have hpt8 : pt ≤ 8 := by omega
            have HFT : Hid (fsz (fnOf m tt) = r16 (8 * rt + at_)) := Lib.hid (by rw [fsz_r16 (by omega) (by omega), hrt, hat]; rfl)
            have HFY : Hid (r16 (8 * rt + at_) ≤ 10000) := Lib.hid (by unfold r16; omega)
            have HPT := Lib.hid hpt
            rw [hrt] at cr
            rw [hat] at ca
            rw [hpt] at cp
            have SB : Hid (wr.drew.drew.cell? ⟨w.heap.size, 1, none⟩ = some (.slice (some ⟨gb, go, none⟩) m.f.length fc) ∧ wr.drew.drew.cell? ⟨gb, go + tt * 4 + 1, none⟩ = some (.int .i64 rt) ∧ wr.drew.drew.cell? ⟨gb, go + tt * 4 + 2, none⟩ = some (.int .i64 at_)) := Lib.hid ⟨by rw [← hfe]; exact cell_of_heap (w := wr.drew.drew) hbm.out rfl, cr, ca⟩
            have CB : Hid (∀ w' : World, w'.heap[w.heap.size]? = some (.cells #[.slice da m.d.length dc, .slice fa m.f.length fc] 25 (0, 0)) → w'.cell? ⟨w.heap.size, 1, none⟩ = some (.slice (some ⟨gb, go, none⟩) m.f.length fc)) := Lib.hid (fun w' h => by rw [← hfe]; exact cell_of_heap h rfl)
            have FCUR : Hid (∀ w', Fr no w w' → w'.cell? ⟨gb, go + cur * 4 + 1, none⟩ = some (.int .i64 (fnOf m cur).r)) := Lib.hid (fun w' r => by
              obtain ⟨b', o', e1, -, e2, -⟩ := FN.out w' r cur hfa.out.cu
              rw [hfe] at e1
              cases e1
              exact e2)
            clear cr ca hrt hat hpt c rd hfe SA
            refine Lex.region [12] [17, 1] (by kernel_rfl) (by kernel_rfl) ?_
            refine Lex.opens (fun w' => w'.cell? ⟨w.heap.size, 1, none⟩ = some (.slice (some ⟨gb, go, none⟩) m.f.length fc) ∧ w'.cell? ⟨gb, go + tt * 4 + 1, none⟩ = some (.int .i64 rt) ∧ w'.cell? ⟨gb, go + tt * 4 + 2, none⟩ = some (.int .i64 at_)) (SB.out) ?_
            repeat (first
              | (refine Lex.skips (by rfl) ?_; (try simp only [Act.put, List.setIfInBounds_toArray, List.set_cons_zero, List.set_cons_succ]))
              | (refine Lex.quiet (v := ?_) (by rfl) (by rfl) ?_ ?_; rotate_left; (focus (intro w' hS'; go_simp; try rfl)); (try simp only [Act.put, List.setIfInBounds_toArray, List.set_cons_zero, List.set_cons_succ])))
            refine Lex.loud (by rfl) (by rfl) ?_
            intro K' hK'
            go_simp
            refine (size_ok _ rt at_ hrt64 hat96).mono ?_
            rintro e w' ⟨rfl, rfl⟩
            refine hK' _ _ (SB.out) ?_
            clear hK'
            try simp only [Act.put, List.setIfInBounds_toArray, List.set_cons_zero, List.set_cons_succ]
            repeat (first
              | (refine Lex.skips (by rfl) ?_; (try simp only [Act.put, List.setIfInBounds_toArray, List.set_cons_zero, List.set_cons_succ]))
              | (refine Lex.quiet (v := ?_) (by rfl) (by rfl) ?_ ?_; rotate_left; (focus (intro w' hS'; go_simp; try rfl)); (try simp only [Act.put, List.setIfInBounds_toArray, List.set_cons_zero, List.set_cons_succ])))
            refine Lex.done ?_
            refine Lex.opens (fun _ => True) (trivial) ?_
            repeat (first
              | (refine Lex.skips (by rfl) ?_; (try simp only [Act.put, List.setIfInBounds_toArray, List.set_cons_zero, List.set_cons_succ]))
              | (refine Lex.quiet (v := ?_) (by rfl) (by rfl) ?_ ?_; rotate_left; (focus (intro w' hS'; go_simp; try rfl)); (try simp only [Act.put, List.setIfInBounds_toArray, List.set_cons_zero, List.set_cons_succ])))
            refine Lex.done ?_
            refine Lex.ends ?_
            obtain ⟨ft, hft2⟩ : ∃ ft, ft = r16 (8 * rt + at_) := ⟨_, rfl⟩
            rw [← hft2] at HFT HFY ⊢
            clear hft2 SB hrt64 hat96
            generalize wr.drew.drew = w9 at *
            go_wp2_with fail
            refine (ownx_pure HX9.out (fun O R z h => sdepth_ok w9 h)).mono ?_
            rintro e w' ⟨rfl, rfl⟩
            have cB := CB.out _ B9.out
            have hto' : (tt : Int) < m.f.length := by omega
            go_wp2_with ((refine wpList_make_any rfl (.tmp 154) (.tmp 154) 26 rfl w9.heap.size 3 (.int .i64 0) 8 Tryz.underlying26 Tryz.infoInt3 rfl .i64 .i64 pt pt pt rfl rfl rfl rfl (by omega) (by unfold maxLen; omega) (Nat.le_refl _) ?_); intro w10 ho10 hg10)
            have r10 : Fr no w9 w10 := (Fr.refl no w9).grown hg10 (fun k hk => by cases hk)
            have HX10 := Lib.hid (HX9.out.fr r10)
            have B10 := Lib.hid (r10.heap B9.out (by simp))
            have E10 : Hid (∃ a b, w10.heap[w6.heap.size]? = some (.cells #[a, b] 43 (0, 0))) := Lib.hid (by obtain ⟨a, b, h⟩ := E9.out; exact ⟨a, b, r10.heap h (by simp)⟩)
            have HRD : Hid (Reads w10 (.slice (some ⟨w9.heap.size, 0, none⟩) pt pt) 1 pt (ints (List.replicate pt 0))) := Lib.hid (by rw [ints_rep]; exact owns_reads ho10)
            have HCALL : Hid (∀ O R z, SpAt w10 O R p s z → Calls Tryz.prog 18 #[.pointer (some ⟨p, 0, none⟩), .int .i64 tt, .slice (some ⟨w9.heap.size, 0, none⟩) pt pt, .int .i64 0, .int .i64 0] w10 fun e w' => e = .returned (.int .i64 (s.callS tt (List.replicate pt 0) 0 0).2) ∧ SpTo w10 w' O R p (s.callS tt (List.replicate pt 0) 0 0).1) := Lib.hid (fun O R z h => by
              have := scall_ok (ar := List.replicate pt 0) (f := tt) (res := 0) (back := 0) (aa := some ⟨w9.heap.size, 0, none⟩) (ac := pt) w10 h (by rw [List.length_replicate]; omega) (by rw [List.length_replicate]; exact HRD.out)
              rw [List.length_replicate] at this
              exact this)
            have HCZ := Lib.hid (call_zero (s := s) (k := tt) (P := pt) HE.out (by rw [hfa.out.em]; exact HTO.out) (by rw [hfa.out.em]; exact HPT.out))
            clear r10 ho10 hg10 cB cp HX9 B9 E9
            cases hrg : s.rg 0
            · rw [HCZ.out.1 hrg] at HCALL
              dsimp only at HCALL
              have hr0 : (fnOf m cur).r = 0 := by
                have h1 := hfa.out.run HE.out
                have h2 := neg_eq hrg (by rw [hfa.out.em, h1.1]; exact (by have := fnOf_ck HNA.out.ck hfa.out.cu; omega))
                rw [hfa.out.em, h1.1] at h2
                exact h2
              refine (ownx_call HX10.out HCALL.out).mono ?_
              rintro e w11 ⟨rfl, hx11, r11⟩
              have cB := CB.out _ (r11.heap B10.out (fun h => h.1 (.inl rfl)))
              have cC := FCUR.out _ hx11.frame
              rw [hr0] at cC
              have RF := Lib.hid hx11.frame
              have hcu : (cur : Int) < m.f.length := by have := hfa.out.cu; omega
              clear hx11 r11 hr0
              go_wp2_with fail
              go_ret
              exact ⟨rfl, RF.out⟩
            have HSU : Hid (sum ≤ n ∧ s.at_ + sum = n) := Lib.hid (by have := (hfa.out.run HE.out).2; omega)
            obtain ⟨tot, htot⟩ : ∃ tot : Nat, tot = sum + ft := ⟨_, rfl⟩
            obtain ⟨dl, hdl⟩ : ∃ dl : Nat, dl = s.ls.length + 1 := ⟨_, rfl⟩
            obtain ⟨sl, hsl⟩ : ∃ sl : Nat, s.ls.length = sl := ⟨_, rfl⟩
            have hws : IntKind.i64.wrap ((sum : Int) + ft) = (tot : Int) := by have := HSU.out.1; have := HN.out.2.1; have := HFY.out; rw [IntKind.wrap_i64]; omega
            have hls := hx.out.ok.ll
            have hwl : IntKind.i64.wrap ((sl : Int) + 1) = (dl : Int) := by rw [IntKind.wrap_i64]; omega
            have HTOT := Lib.hid htot
            have HDL := Lib.hid hdl
            have HSL := Lib.hid hsl
            rw [hsl]
            clear hls htot hdl hsl
            rcases chain_step hfa.out HE0.out HTO.out HFT.out HFY.out HN.out.2.1 HPT.out hrg with ⟨s2, hq, he2, hl2, hfa2, hd0, hg0⟩ | ⟨s2, hq, he2, hfa2, hgg⟩
            · have HC2 := Lib.hid (call_to (q := s.callS tt (List.replicate pt 0) 0 0) (s2 := s2) (c := 0) HCALL.out hq)
              have HE2 := Lib.hid he2
              have HL2 := Lib.hid (hl2.trans HDL.out.symm)
              rw [← HTOT.out] at hfa2
              have HFA2 := Lib.hid hfa2
              have hd1 : ¬ (sl : Int) ≥ 256 := by have := HSL.out; omega
              have hgt2 : ¬ (tot : Int) > rm := by have := HRM.out; have := HTOT.out; omega
              clear hq he2 hl2 hfa2 hd0 hg0 HCALL
              refine (ownx_call HX10.out HC2.out).mono ?_
              rintro e w11 ⟨rfl, hx11, r11⟩
              have HX11 := Lib.hid hx11
              have B11 := Lib.hid (r11.heap B10.out (fun h => h.1 (.inl rfl)))
              obtain ⟨ea, eb, he11⟩ := E10.out
              have E11 := Lib.hid (r11.heap he11 (fun h => h.1 (.inr rfl)))
              clear hx11 r11 he11
              go_wp2_with fail
              refine (ownx_fr HX11.out (fun O R z h => send_ok w11 h)).mono ?_
              rw [HE2.out]
              rintro e w12 ⟨rfl, h12⟩
              have HX12 := Lib.hid (HX11.out.fr h12)
              have B12 := Lib.hid (h12.heap B11.out (by simp))
              have E12 := Lib.hid (h12.heap E11.out (by simp))
              clear h12
              go_upto_region 25 with ((refine wpList_store_row rfl 43 (.tmp 14) (.tmp 184) rfl w6.heap.size #[.int .i64 0, .int .i64 0] rfl rfl _ _ E12.out (by rw [Tryz.infoEnd]; rfl) rfl (by simp [Value.oneCell']) ?_; rw [act_put_none]))
              have E13 := Lib.hid (Inv.row_heap w12 w6.heap.size _ #[.int .i64 0, .int .i64 0] _ E12.out)
              have rs := Inv.fr_row (S := only [w6.heap.size]) (g := w6.heap.size) (cs := #[.int .i64 0, .int .i64 0]) (Fr.refl _ w12) (.inl (by simp))
              have HX13 := Lib.hid (HX12.out.turn rs (fun k hk => by simp at hk; subst hk; exact ⟨.inr rfl, EB.out⟩))
              have B13 := Lib.hid (rs.heap B12.out (fun e => by simp at e; exact block_ne B12.out E12.out (by decide) e))
              clear rs
              generalize w12.setRow w6.heap.size #[.int .i64 0, .int .i64 0] = w13 at *
              have v0 := cell_of_heap (o := 0) E13.out rfl
              go_wp2_with fail
              refine (ownx_pure HX13.out (fun O R z h => sdepth_ok w13 h)).mono ?_
              rintro e w' ⟨rfl, rfl⟩
              rw [HL2.out]
              go_wp2_with fail
              go_roundw
              case rel => exact ⟨j + 1, tot, tt, false, s2, by omega, by go_num, rfl, rfl, rfl, Lib.hid (by rw [HE2.out]; rfl), HFA2, HX13, B13, Lib.hid ⟨_, _, E13.out⟩⟩
              case measure => first | (simp [intOf]; done) | (simp [intOf]; omega)
            · have HC2 := Lib.hid (call_to (q := s.callS tt (List.replicate pt 0) 0 0) (s2 := s2) (c := 0) HCALL.out hq)
              have HE2 := Lib.hid he2
              rw [← HTOT.out] at hfa2
              have HFA2 := Lib.hid hfa2
              have hgt2 : (sl : Int) ≥ 256 ∨ (¬ (sl : Int) ≥ 256 ∧ (tot : Int) > rm) := by have := HRM.out; have := HTOT.out; have := HSL.out; omega
              clear hq he2 hfa2 hgg HCALL
              refine (ownx_call HX10.out HC2.out).mono ?_
              rintro e w11 ⟨rfl, hx11, r11⟩
              have HX11 := Lib.hid hx11
              have B11 := Lib.hid (r11.heap B10.out (fun h => h.1 (.inl rfl)))
              obtain ⟨ea, eb, he11⟩ := E10.out
              have E11 := Lib.hid (r11.heap he11 (fun h => h.1 (.inr rfl)))
              clear hx11 r11 he11
              go_wp2_with fail
              refine (ownx_fr HX11.out (fun O R z h => send_ok w11 h)).mono ?_
              rw [HE2.out]
              rintro e w12 ⟨rfl, h12⟩
              have HX12 := Lib.hid (HX11.out.fr h12)
              have B12 := Lib.hid (h12.heap B11.out (by simp))
              have E12 := Lib.hid (h12.heap E11.out (by simp))
              clear h12
              go_upto_region 25 with ((refine wpList_store_row rfl 43 (.tmp 14) (.tmp 184) rfl w6.heap.size #[.int .i64 3, .int .i64 0] rfl rfl _ _ E12.out (by rw [Tryz.infoEnd]; rfl) rfl (by simp [Value.oneCell']) ?_; rw [act_put_none]))
              have E13 := Lib.hid (Inv.row_heap w12 w6.heap.size _ #[.int .i64 3, .int .i64 0] _ E12.out)
              have rs := Inv.fr_row (S := only [w6.heap.size]) (g := w6.heap.size) (cs := #[.int .i64 3, .int .i64 0]) (Fr.refl _ w12) (.inl (by simp))
              have HX13 := Lib.hid (HX12.out.turn rs (fun k hk => by simp at hk; subst hk; exact ⟨.inr rfl, EB.out⟩))
              have B13 := Lib.hid (rs.heap B12.out (fun e => by simp at e; exact block_ne B12.out E12.out (by decide) e))
              clear rs
              generalize w12.setRow w6.heap.size #[.int .i64 3, .int .i64 0] = w13 at *
              have v0 := cell_of_heap (o := 0) E13.out rfl
              rcases hgt2 with hd1 | ⟨hd1, hd2⟩
              · go_wp2_with fail
                go_roundw
                case rel => exact ⟨j + 1, tot, tt, true, s2, by omega, by go_num, rfl, rfl, rfl, Lib.hid (by rw [HE2.out]; rfl), HFA2, HX13, B13, Lib.hid ⟨_, _, E13.out⟩⟩
                case measure => first | (simp [intOf]; done) | (simp [intOf]; omega)
              · go_wp2_with fail
                go_roundw
                case rel => exact ⟨j + 1, tot, tt, true, s2, by omega, by go_num, rfl, rfl, rfl, Lib.hid (by rw [HE2.out]; rfl), HFA2, HX13, B13, Lib.hid ⟨_, _, E13.out⟩⟩
                case measure => first | (simp [intOf]; done) | (simp [intOf]; omega)
theorem full15_rd (w : World) (s0 : Array Value) {n0 : Nat} {d0 : Dt} (h0 : Rd Tryz.prog w n0 25 s0.toList d0) (mem : Int) (hwf : (Lit.int .i64 mem).wf = true) (lv : Value) (l : List Int)
    (hl : Reads w lv 1 l.length (l.map (.int .i64)) ∧ (∀ z ∈ l, (Lit.int .i64 z).wf = true) ∧ l.length * Tryz.prog.bytesOf 3 ≤ reachBytes) :
    Calls Tryz.prog 3 #[.agg s0, .int .i64 mem, lv] w fun e w' => e = .returned (.bool true) ∧ Fr no w w' := by
  have b3 : Tryz.prog.bytesOf 3 = 8 := by kernel_rfl
  have hR : reachBytes = 140737488351232 := rfl
  obtain ⟨m, da, dc, fa, fc, hs, hm, hr⟩ := mod_rd_of h0
  obtain rfl : s0 = #[.slice da m.d.length dc, .slice fa m.f.length fc] := Array.ext' hs
  obtain ⟨la, lc, rfl⟩ := hl.1.shape
  have h3 := hl.2.2
  rw [b3, hR] at h3
  exact full15_ok w m da dc fa fc mem la lc l hm hr hwf hl.1 hl.2.1 (by unfold maxLen; omega)

end Go.Proofs.YtihnkijeefkefaaGreat

namespace Go.Proofs.YtihnkijeefkefaaGreat.spaceFullP
open Go.ChangeShapes Go.WideShapes Go.ChangeAt Go.RowKit

theorem own : ownKnob Tryz.prog.godebug = none := by kernel_rfl
theorem laidOut : laidOutB Tryz.prog = true := by kernel_rfl

set_option linter.unusedVariables false
set_option maxRecDepth 100000 in
theorem lifted (os : Os) (started : os.Started) (H : Type) (enc : TypeId × Value → H) :
    ReturnsInHanded {} Tryz.checked os 3 .any (Rows.spaceFullSpec.pre6 enc Tryz.prog Tryz.f3 Rows.spaceFullRow.domain false) (Rows.spaceFullSpec.post enc Tryz.prog Tryz.f3 false true false false) := by
  refine returnsInHanded_of_change_sized (C := Tryz.checked) own started (by kernel_rfl) Tryz.func3
    (ChangeSpec.witness6 (enc := enc) (C := Tryz.checked) false ⟨#[], #[.agg #[.slice none 0 0, .slice none 0 0], .int .i64 0, .slice none 0 0], []⟩ 8 (by kernel_rfl) (by kernel_rfl) (by kernel_rfl) (by kernel_rfl)) ?_
  intro W base args ds gs before hval0 hW hcnd hsz0 _
  have hval : ∀ (j : Nat) t v, Tryz.f3.params[j]? = some t → args[j]? = some v → Value.okWide Tryz.prog W .any base t v := hval0
  have hsz : (DataW.weightsEach Tryz.prog (Tryz.f3.params.toList ++ Rows.spaceFullSpec.plain.varTypes Tryz.prog) (ds ++ gs)).all (· ≤ reachBytes) = true := hsz0
  clear hsz0 hcnd
  have hW' := hW
  obtain ⟨p, q, hA0, hV, rfl, hfz, hnd⟩ := hW
  have hA : DataW.TrodAll enc Tryz.prog W 0 (fun _ => true) true Tryz.f3.params.toList args.toList ds p := hA0
  rw [Tryz.params3] at hA hval hsz
  obtain ⟨v0, vs0, d0, ds0, p0, q0, hargs, rfl, rfl, h0, r0⟩ := trodAll_cons hA
  obtain ⟨v1, vs1, d1, ds1, p1, q1, rfl, rfl, rfl, h1, r1⟩ := trodAll_cons r0
  obtain ⟨v2, vs2, d2, ds2, p2, q2, rfl, rfl, rfl, h2, r2⟩ := trodAll_cons r1
  obtain ⟨rfl, rfl, rfl⟩ := trodAll_nil r2
  obtain rfl : args = #[v0, v1, v2] := by cases args; simp_all
  obtain ⟨rfl, rfl⟩ := trodVars_none hV
  clear hA0 hval0
  have k0 := h0
  have lt0 : ∀ x ∈ p0, x.block < W.heap.size := by obtain ⟨m, hm⟩ := k0; exact DataW.trod_lt m _ _ _ hm
  obtain ⟨s0, n0, c0, rfl, e0⟩ := arg_agg Tryz.underlying25 (hval 0 25 v0 rfl rfl) h0
  have k1 := h1
  have lt1 : ∀ x ∈ p1, x.block < W.heap.size := by obtain ⟨m, hm⟩ := k1; exact DataW.trod_lt m _ _ _ hm
  obtain ⟨n1, rfl, e1⟩ := arg_int Tryz.underlying3 (hval 1 3 v1 rfl rfl) h1
  have k2 := h2
  have lt2 : ∀ x ∈ p2, x.block < W.heap.size := by obtain ⟨m, hm⟩ := k2; exact DataW.trod_lt m _ _ _ hm
  obtain ⟨n2, e2⟩ := arg_ints Tryz.underlying26 Tryz.underlying3 (by kernel_rfl) (hval 2 26 v2 rfl rfl) h2 (fun x y hd => sized_slice hsz (j := 2) (t := 26) (e := 3) rfl (by rw [hd]; rfl) Tryz.underlying26)
  refine (full15_rd W s0 e0 n1 e1 v2 n2 e2).mono fun e W' ⟨he, fr⟩ => ?_
  subst he
  have bel := fr.below (Nat.le_refl _) (fun k hk => hk.elim)
  exact ⟨_, rfl, _, _, _, [], _, [], hW', trodAll_mk1 (shut_bool Tryz.underlying4 _), (trodAll_cons_mk (Below.trod laidOut (by kernel_rfl) (of_decide_eq_true (by kernel_rfl)) k0 bel lt0) (trodAll_cons_mk (Below.trod laidOut (by kernel_rfl) (of_decide_eq_true (by kernel_rfl)) k1 bel lt1) (trodAll_cons_mk (Below.trod laidOut (by kernel_rfl) (of_decide_eq_true (by kernel_rfl)) k2 bel lt2) trodAll_mk0))), rfl, bel.frame _, fun h => by cases h⟩

theorem proved : Rows.SpaceFullSaid :=
  OpenClaim.holds_of_wide 3 Tryz.f3 rfl rfl rfl rfl rfl rfl rfl ⟨rfl, rfl, rfl, rfl, rfl⟩ rfl rfl rfl rfl rfl (by kernel_rfl) Tryz.func3 (by kernel_rfl)
    (of_decide_eq_true (by kernel_rfl)) (by unfold Func.isWrapper; rw [if_neg (of_decide_eq_false (by kernel_rfl))]; exact ⟨rfl, rfl⟩)
    (fun os started H enc _ => lifted os started H enc)
#print axioms proved
end Go.Proofs.YtihnkijeefkefaaGreat.spaceFullP

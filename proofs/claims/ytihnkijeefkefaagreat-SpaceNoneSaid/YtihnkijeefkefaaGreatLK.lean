import Derived.Test.YtihnkijeefkefaaGreatLJ
import Derived.Test.YtihnkijeefkefaaGreatLH
import Derived.Test.YtihnkijeefkefaaGreatLI
set_option linter.unusedSimpArgs false
set_option linter.unusedVariables false
set_option linter.unusedSectionVars false
set_option linter.unnecessarySimpa false
set_option maxRecDepth 100000
namespace Go.Proofs.YtihnkijeefkefaaGreat
open Go.RowKit

attribute [local go_sem] Program.isFuncB Program.isSliceB

variable {w w' w'' w0 : World}

theorem Lent.frx {base : Nat} {v : Value} {bs : List Nat} {S : Nat → Prop} (h : Lent w base v bs) (r : Fr S w w') (hS : ∀ k, v.ownBlock = some k → ¬ S k) : Lent w' base v bs := by
  obtain ⟨g, c, h1, h2, h3, cur, h4, h5, h6, h7⟩ := h.row
  exact ⟨g, c, h1, h2, h3, cur, r.heap h4 (hS g (by rw [h1]; rfl)), h5, h6, h7⟩
theorem Lent.old {base : Nat} {v : Value} {bs : List Nat} (h : Lent w base v bs) : ∀ k, v.ownBlock = some k → k < w.heap.size := by
  obtain ⟨g, c, rfl, h2, h3, cur, h4, h5, h6, h7⟩ := h.row
  intro k hk
  cases hk
  exact (Array.getElem?_eq_some_iff.1 h4).1
theorem Lent.bytes {base : Nat} {v : Value} {bs : List Nat} (h : Lent w base v bs) (hk : ∀ x ∈ bs, x < 256) (hl : bs.length ≤ 100000) : Bytes w v bs := ⟨h.reads.1, hk, hl, h.old⟩

/-- what Split hands back, read -/
structure SplitV (w w' : World) (sp : Sp) (a : Option Addr) (c : Nat) (v : Value) : Prop where
  code : CodeIn w' a sp.is
  places : w'.ownsRow (w.heap.size + 1) 3 1 v sp.ps.length (ints sp.ps)
  fr : Fr no w w'
  few : ∀ i ∈ sp.is, i.l.length ≤ 8
theorem splitR_few (bs : List Nat) : ∀ (f : Nat) (is : List Ix) (ps : List Int) (a : Nat), (∀ i ∈ is, i.l.length ≤ 8) → ∀ i ∈ (splitR bs f is ps a).is, i.l.length ≤ 8
  | 0, is, ps, a, h => h
  | f + 1, is, ps, a, h => by
    unfold splitR
    split
    · exact h
    split
    · intro i hi; cases hi
    · rename_i h2
      refine splitR_few bs f _ _ _ (fun i hi => ?_)
      rw [List.mem_append, List.mem_singleton] at hi
      rcases hi with hi | rfl
      · exact h i hi
      · rcases getR_cases bs a with ⟨-, hf⟩ | ⟨hf, -⟩
        · exact hf.few
        · exact absurd hf h2
theorem splitR_len (bs : List Nat) : ∀ (f : Nat) (is : List Ix) (ps : List Int) (a : Nat), is.length ≤ a → ps.length = is.length → a ≤ bs.length → (splitR bs f is ps a).is.length ≤ bs.length ∧ (splitR bs f is ps a).ps.length = (splitR bs f is ps a).is.length
  | 0, is, ps, a, h, h2, h3 => ⟨Nat.le_trans h h3, h2⟩
  | f + 1, is, ps, a, h, h2, h3 => by
    unfold splitR
    split
    · exact ⟨Nat.le_trans h h3, h2⟩
    split
    · exact ⟨Nat.zero_le _, rfl⟩
    · rename_i h4
      rcases getR_cases bs a with ⟨-, hf⟩ | ⟨hf, -⟩
      · obtain ⟨n, hn, h5, h6⟩ := hf.next
        rw [hn, Int.toNat_natCast]
        exact splitR_len bs f _ _ n (by simp; omega) (by simp [h2]) h6
      · exact absurd hf h4
theorem splitR_opened {w w' : World} {bs : List Nat} {e : Ending} (h : SplitR w (splitR bs (bs.length + 1) [] [] 0) e w') : ∃ a c v, e = .returned (.tuple #[.slice a (splitR bs (bs.length + 1) [] [] 0).is.length c, v, .agg #[.int .i64 (splitR bs (bs.length + 1) [] [] 0).er, .int .i64 (splitR bs (bs.length + 1) [] [] 0).fa]]) ∧ SplitV w w' (splitR bs (bs.length + 1) [] [] 0) a c v := by
  obtain ⟨u, v, l, h1, h2, h3, h4, h5, h6, h7, h8, h9⟩ := h
  obtain ⟨a, c, rfl, h10⟩ := codeIn_owns h3 (fun p hp => owns_reads (h4 p hp))
  have h11 : l.length = (splitR bs (bs.length + 1) [] [] 0).is.length := by rw [← h2]; simp
  refine ⟨a, c, v, by rw [h1, h11], ?_, h7, h9, splitR_few _ _ _ _ _ (by intro i hi; cases hi)⟩
  rw [← h2]
  exact h10
/-- bytes that were handed in -/
theorem bytes_of {n : Nat} {v : Value} {d : Dt} (h : Rd Tryz.prog w n 22 [v] d) : ∃ bs : List Nat, Reads w v 1 bs.length (u8s bs) ∧ (∀ b ∈ bs, b < 256) ∧ bs.length ≤ maxLen := by
  obtain ⟨zs, -, hr, hz, hm⟩ := Rd.reads (v := v) Tryz.underlying22 Tryz.underlying5 (by kernel_rfl) h
  have hp : ∀ z ∈ zs, 0 ≤ z ∧ z < 256 := fun z h => by
    have h1 : IntKind.u8.min ≤ z ∧ z ≤ IntKind.u8.max := by simpa [Lit.wf] using hz z h
    have h2 : IntKind.u8.min = 0 := by decide
    have h3 : IntKind.u8.max = 255 := by decide
    omega
  refine ⟨zs.map Int.toNat, ?_, fun b hb => ?_, by simpa using hm⟩
  · have e : u8s (zs.map Int.toNat) = zs.map (.int .u8) := by
      unfold u8s
      rw [List.map_map]
      refine List.map_congr_left fun z h => ?_
      have := hp z h
      simp only [Function.comp]
      rw [Int.toNat_of_nonneg this.1]
    rw [e, List.length_map]
    exact hr
  · obtain ⟨z, h, rfl⟩ := List.mem_map.1 hb
    have := hp z h
    omega
end Go.Proofs.YtihnkijeefkefaaGreat

namespace Go.Proofs.YtihnkijeefkefaaGreat

/-! ### Get is Put's inverse, and Put is Get's -/
theorem fields_map (regs : List Int) : ∀ (s : List UInt8) (st : List Int × List Int × Int), (s.foldl (stepF regs) st).1 = st.1 ++ (List.range (kc s)).map (fun j => regs.getD (st.1.length + j) 0)
  | [], st => by simp [kc]
  | c :: s, st => by
    rw [List.foldl_cons, fields_map regs s, kc_cons]
    unfold stepF
    by_cases h1 : c = 119
    · subst h1
      rw [if_pos rfl, if_pos (by decide), Nat.add_comm 1, List.range_succ_eq_map]
      simp [Nat.add_assoc, Nat.add_comm 1]
    by_cases h2 : c = 114
    · subst h2
      rw [if_neg (by decide), if_pos rfl, if_pos (by decide), Nat.add_comm 1, List.range_succ_eq_map]
      simp [Nat.add_assoc, Nat.add_comm 1]
    · rw [if_neg h1, if_neg h2]
      have : regB c.toNat = false := by
        unfold regB
        simp only [Bool.or_eq_false_iff, beq_eq_false_iff_ne]
        refine ⟨fun e => h1 ?_, fun e => h2 ?_⟩
        · exact UInt8.toNat_inj.1 (by show c.toNat = 119; omega)
        · exact UInt8.toNat_inj.1 (by show c.toNat = 114; omega)
      rw [this]
      simp
theorem fields_mem (A B C : Int) (s : List UInt8) (j : Nat) (h : j < kc s) : [A, B, C].getD j 0 ∈ (fieldsOf [A, B, C] s).1 := by
  unfold fieldsOf
  rw [fields_map]
  simp only [List.nil_append, List.length_nil, Nat.zero_add, List.mem_map, List.mem_range]
  exact ⟨j, h, rfl⟩

/-- a shape without its list's letter, and that letter -/
def sh1 (o : Nat) : List UInt8 := (shapeOf o).data.toList.filter (· != 108)
def sh2 (o : Nat) : List UInt8 := if (shapeOf o).data.toList.contains 108 then [108] else []
structure ShF (o : Nat) : Prop where
  split : (shapeOf o).data.toList = sh1 o ++ sh2 o
  kc3 : kc (sh1 o) ≤ 3
  kcs : kc (shapeOf o).data.toList = kc (sh1 o)
  nc1 : nc (sh1 o) ≤ 1
  no : (108 : UInt8) ∉ sh1 o
  many : Lib.countByte (shapeOf o).data.toList 119 + Lib.countByte (shapeOf o).data.toList 114 = kc (sh1 o)
  num : Lib.containsAny (shapeOf o).data.toList numLetters = (sh1 o).any (fun c => !regB c.toNat)
  has : hasB (shapeOf o).data.toList 108 = (shapeOf o).data.toList.contains 108
  sub : ∀ c ∈ sh1 o, c ∈ (shapeOf o).data.toList
  letters : ∀ c ∈ sh1 o, regB c.toNat = false → c.toNat = 105 ∨ c.toNat = 107 ∨ c.toNat = 109 ∨ c.toNat = 122 ∨ c.toNat = 102 ∨ c.toNat = 100 ∨ c.toNat = 116 ∨ c.toNat = 99
theorem shF (o : Nat) (h : o < 33) : ShF o := by
  have h1 : ∀ o, o < 33 → (shapeOf o).data.toList = sh1 o ++ sh2 o ∧ kc (sh1 o) ≤ 3 ∧ kc (shapeOf o).data.toList = kc (sh1 o) ∧ nc (sh1 o) ≤ 1 := by decide
  have h2 : ∀ o, o < 33 → Lib.countByte (shapeOf o).data.toList 119 + Lib.countByte (shapeOf o).data.toList 114 = kc (sh1 o) ∧ Lib.containsAny (shapeOf o).data.toList numLetters = (sh1 o).any (fun c => !regB c.toNat) ∧ hasB (shapeOf o).data.toList 108 = (shapeOf o).data.toList.contains 108 := by decide
  have h3 : ∀ o, o < 33 → (sh1 o).all (fun c => regB c.toNat || c.toNat == 105 || c.toNat == 107 || c.toNat == 109 || c.toNat == 122 || c.toNat == 102 || c.toNat == 100 || c.toNat == 116 || c.toNat == 99) = true := by decide
  obtain ⟨a1, a2, a3, a4⟩ := h1 o h
  obtain ⟨b1, b2, b3⟩ := h2 o h
  have c1 := h3 o h
  refine ⟨a1, a2, a3, a4, ?_, b1, b2, b3, ?_, ?_⟩
  · unfold sh1; simp
  · unfold sh1; intro c hc; exact (List.mem_filter.1 hc).1
  · intro c hc hr
    have := List.all_eq_true.1 c1 c hc
    rw [hr] at this
    simp only [Bool.false_or, Bool.or_eq_true, beq_iff_eq] at this
    omega
theorem argsR_zero (bs : List Nat) (p : Nat × Bool) : argsR bs 0 p = ([], p) := rfl
theorem sh_at (o : Nat) (h : o < 33) : sh (o : Int) = (shapeOf o).data.toList := by
  unfold sh shapeI
  rw [if_pos (by omega), Int.toNat_natCast]

set_option maxHeartbeats 4000000 in
theorem getR_enc (i : Ix) (h : ckOf i = 0) (hN : rng i.N) (bs : List Nat) (a : Nat) (rest : List Nat) (hd : bs.drop a = encE i ++ rest) : getR bs a = ⟨i, ((a + (encE i).length : Nat) : Int), 0, 0⟩ := by
  have hE : encE i = enc i.o i.A i.B i.C i.N i.l := by unfold encE; rw [if_pos h]
  have hf := (fine_iff _ _ _ _ _ _ _ _).1 h
  have h0 := h
  unfold ckOf at h0
  rw [hE] at hd ⊢
  obtain ⟨o', A, B, C, N, l⟩ := i
  dsimp only at *
  obtain ⟨o, rfl⟩ : ∃ o : Nat, o' = o := ⟨o'.toNat, by have := hf.op.1; omega⟩
  have ho : o < 33 := by have := hf.op.2; omega
  have F := shF o ho
  rw [enc_eq, sh_at o ho, Int.toNat_natCast, F.split, encL_app, Nat.zero_add] at hd
  rw [enc_eq, sh_at o ho, Int.toNat_natCast, F.split, encL_app, Nat.zero_add]
  rw [List.cons_append, List.append_assoc] at hd
  have hbare : bareB (o : Int) A B C N l.length = true := by
    have := hf.lim
    cases hb : bareB (o : Int) A B C N l.length
    · exact absurd (.inr (.inr (.inr (.inr hb)))) this
    · rfl
  unfold bareB manyOf at hbare
  rw [sh_at o ho, F.many, F.num, F.has] at hbare
  simp only [Bool.and_eq_true] at hbare
  obtain ⟨⟨hb1, hb2⟩, hb3⟩ := hbare
  have hregs : ∀ j, j < kc (sh1 o) → 0 ≤ [A, B, C].getD j 0 ∧ [A, B, C].getD j 0 < 64 := fun j hj => by
    have hm := fields_mem A B C (sh (o : Int)) j (by rw [sh_at o ho, F.kcs]; exact hj)
    have hall := hf.all
    rw [Bool.not_eq_true, List.any_eq_false] at hall
    have := hall _ (List.mem_append_left _ hm)
    unfold out1 at this
    simp only [Bool.or_eq_true, decide_eq_true_eq, not_or] at this
    omega
  have hargs : ∀ z ∈ l, 0 ≤ z ∧ z < 64 := fun z hz => by
    have hall := hf.all
    rw [Bool.not_eq_true, List.any_eq_false] at hall
    have := hall _ (List.mem_append_right _ hz)
    unfold out1 at this
    simp only [Bool.or_eq_true, decide_eq_true_eq, not_or] at this
    omega
  have hfits : ∀ c ∈ sh1 o, regB c.toNat = false → fits N (widthOf c.toNat) := fun c hc hr => by
    have hnum := hf.num
    rw [Bool.not_eq_true, List.any_eq_false] at hnum
    have h1 := hnum c (by rw [sh_at o ho]; exact F.sub c hc)
    simp only [Bool.not_eq_true', Bool.not_eq_false] at h1
    unfold rng at hN
    rcases F.letters c hc hr with e | e | e | e | e | e | e | e
    · rw [show widthOf (c.toNat : Int) = 8 from by rw [e]; decide]
      exact fits_word hN.1 hN.2
    · rw [show widthOf (c.toNat : Int) = 1 from by rw [e]; decide]
      rw [e] at h1
      simp [numOk] at h1
      exact fits_small (by omega) (by show _ < 256; omega) (by omega)
    · rw [show widthOf (c.toNat : Int) = 1 from by rw [e]; decide]
      rw [e] at h1
      simp [numOk] at h1
      exact fits_small (by omega) (by show _ < 256; omega) (by omega)
    · rw [show widthOf (c.toNat : Int) = 1 from by rw [e]; decide]
      rw [e] at h1
      simp [numOk] at h1
      exact fits_small (by omega) (by show _ < 256; omega) (by omega)
    · rw [show widthOf (c.toNat : Int) = 2 from by rw [e]; decide]
      rw [e] at h1
      simp [numOk] at h1
      exact fits_small (by omega) (by show _ < 65536; omega) (by omega)
    · rw [show widthOf (c.toNat : Int) = 2 from by rw [e]; decide]
      rw [e] at h1
      simp [numOk] at h1
      exact fits_small (by omega) (by show _ < 65536; omega) (by omega)
    · rw [show widthOf (c.toNat : Int) = 2 from by rw [e]; decide]
      rw [e] at h1
      simp [numOk] at h1
      exact fits_small (by omega) (by show _ < 65536; omega) (by omega)
    · rw [show widthOf (c.toNat : Int) = 1 from by rw [e]; decide]
      rw [e] at h1
      simp [numOk] at h1
      exact fits_small (by omega) (by show _ < 256; omega) (by omega)
  have t0 : takeR bs 1 (a, false) = (o, a + 1, false) ∧ bs.drop (a + 1) = encL A B C N l (sh1 o) 0 ++ (encL A B C N l (sh2 o) (kc (sh1 o)) ++ rest) := by
    obtain ⟨e1, e2⟩ := takeR_app (m := [o]) (by rw [hd]; rfl) (by simp)
    exact ⟨by rw [show [o].length = 1 from rfl] at e1; rw [e1]; simp [unle], e2⟩
  obtain ⟨p1, p2, U⟩ := dec_fold bs A B C N l (kc (sh1 o)) F.kc3 (fun j hj => fits_small (hregs j hj).1 (by have := hregs j hj; omega) (by have := hregs j hj; omega)) (sh1 o) (startG (a + 1, false)) (a + 1) _ F.no rfl t0.2 hfits (by show 0 + _ ≤ _; omega)
  rw [show (startG (a + 1, false)).k = 0 from rfl] at p1 p2
  have ha : a + 1 ≤ bs.length := by
    have := congrArg List.length hd
    simp at this
    omega
  have hfold : runG bs (a + 1, false) (sh (o : Int)) = (sh2 o).foldl (stepG bs) ((sh1 o).foldl (stepG bs) (startG (a + 1, false))) := by
    unfold runG
    rw [sh_at o ho, F.split, List.foldl_append]
  generalize (sh1 o).foldl (stepG bs) (startG (a + 1, false)) = g1 at *
  obtain ⟨u1, u2, u3, u4, u5, u6⟩ := U
  simp only [startG, Nat.zero_add, Nat.le_refl, true_and, Nat.zero_le] at u1 u2 u3 u4 u5 u6
  have hk3 := F.kc3
  have eA : g1.A = A := by
    rw [u3]
    split
    · rfl
    · rename_i hk
      rw [show kc (sh1 o) = 0 from by omega] at hb1
      simp at hb1; omega
  have eB : g1.B = B := by
    rw [u4]
    split
    · rfl
    · rename_i hk
      have : kc (sh1 o) = 0 ∨ kc (sh1 o) = 1 := by omega
      rcases this with e | e <;> rw [e] at hb1 <;> simp at hb1 <;> omega
  have eC : g1.C = C := by
    rw [u5]
    split
    · rfl
    · rename_i hk
      have : kc (sh1 o) = 0 ∨ kc (sh1 o) = 1 ∨ kc (sh1 o) = 2 := by omega
      rcases this with e | e | e <;> rw [e] at hb1 <;> simp at hb1 <;> omega
  have eN : g1.N = N := by
    rw [u6]
    split
    · rfl
    · rename_i hk
      simp only [Bool.or_eq_true] at hb2
      rcases hb2 with e | e
      · exact absurd e hk
      · simp at e; omega
  have hfew := hf.few
  unfold getR
  rw [if_neg (by omega), Int.toNat_natCast, t0.1]
  dsimp only
  rw [if_neg (by simp), if_neg (by omega), hfold]
  by_cases hc : (shapeOf o).data.toList.contains 108 = true
  · have e2 : sh2 o = [108] := by unfold sh2; rw [if_pos hc]
    rw [e2] at p2 ⊢
    have eL : ∀ k, encL A B C N l [108] k = l.length :: l.map Int.toNat := fun k => by rw [encL_cons, if_pos rfl]; simp [encL]
    rw [eL] at p2 ⊢
    have p3 : bs.drop (a + 1 + (encL A B C N l (sh1 o) 0).length) = [l.length] ++ (l.map Int.toNat ++ rest) := by rw [p2]; rfl
    obtain ⟨q1, q2⟩ := takeR_app p3 (by simp)
    rw [show [l.length].length = 1 from rfl] at q1 q2
    have hst : List.foldl (stepG bs) g1 [108] = { g1 with many := l.length, p := (a + 1 + (encL A B C N l (sh1 o) 0).length + 1, false) } := by
      rw [List.foldl_cons, List.foldl_nil]
      unfold stepG
      rw [if_pos rfl, p1, q1]
      simp [unle]
    rw [hst]
    dsimp only
    have hq := congrArg List.length q2
    simp only [List.length_drop, List.length_append, List.length_map] at hq
    have hr := congrArg List.length p3
    simp only [List.length_drop, List.length_append, List.length_map, List.length_cons, List.length_nil] at hr
    have hA : argsR bs l.length (a + 1 + (encL A B C N l (sh1 o) 0).length + 1, false) = (l, a + 1 + (encL A B C N l (sh1 o) 0).length + 1 + l.length, false) := by
      rw [argsR_fine bs _ _ (by omega), q2, List.take_left' (by simp), List.map_map]
      congr 1
      have : l.map ((fun (x : Nat) => (x : Int)) ∘ Int.toNat) = l.map id := List.map_congr_left fun z hz => by
        have := hargs z hz
        simp only [Function.comp, id]
        exact Int.toNat_of_nonneg this.1
      rw [this, List.map_id]
    rw [if_neg (by simp), if_neg hfew, hA]
    dsimp only
    rw [if_neg (by simp), eA, eB, eC, eN, h0, if_neg (by simp)]
    congr 1
    simp only [List.length_cons, List.length_append, List.length_map]
    omega
  · have e2 : sh2 o = [] := by unfold sh2; rw [if_neg hc]
    rw [e2] at p2 ⊢
    have hl0 : l = [] := by
      simp only [Bool.not_eq_true] at hc
      rw [hc] at hb3
      simp at hb3
      exact hb3
    subst hl0
    rw [List.foldl_nil, p1, u2]
    rw [if_neg (by simp), if_neg (by omega)]
    rw [argsR_zero]
    dsimp only
    rw [if_neg (show ¬ (false = true) from by simp), eA, eB, eC, eN, h0, if_neg (show ¬ ((0 : Int) ≠ 0) from by simp)]
    congr 1
    simp only [encL, List.append_nil, List.length_cons]
    omega

theorem getR_back (bs : List Nat) (hb : ∀ b ∈ bs, b < 256) (a : Int) (hok : (getR bs a).er = 0) : ∃ (m n : Nat), a = m ∧ (getR bs a).next = n ∧ n ≤ bs.length ∧ m < n ∧ bs.drop m = encE (getR bs a).ix ++ bs.drop n ∧ ckOf (getR bs a).ix = 0 ∧ rng (getR bs a).ix.N := by
  rcases getR_cases bs a with ⟨-, hfit⟩ | ⟨hne, -⟩
  case inr => exact absurd hok hne
  obtain ⟨m, rfl⟩ : ∃ m : Nat, a = m := ⟨a.toNat, by have := hfit.at_; omega⟩
  obtain ⟨n, hn, hmn, hnl⟩ := hfit.next
  have hck := hfit.ck
  refine ⟨m, n, rfl, hn, hnl, by omega, ?_⟩
  have hE : encE (getR bs m).ix = enc (getR bs m).ix.o (getR bs m).ix.A (getR bs m).ix.B (getR bs m).ix.C (getR bs m).ix.N (getR bs m).ix.l := by unfold encE; rw [if_pos hck]
  rw [hE]
  refine ⟨?_, hck, ?_⟩
  all_goals
    revert hok hn
    clear hE hck hfit
    unfold getR
    rw [if_neg (by omega), Int.toNat_natCast, takeR_one bs m (by omega)]
    dsimp only
    rw [if_neg (show ¬ (false = true) from by simp)]
    have hx0 : bs[m]'(by omega) :: bs.drop (m + 1) = bs.drop m := (List.drop_eq_getElem_cons (by omega)).symm
    generalize bs[m]'(by omega) = x0 at *
    by_cases c3 : 33 ≤ x0
    · rw [if_pos c3]; intro h; exact absurd h (by show (16 : Int) ≠ 0; decide)
    rw [if_neg c3]
    have ho : x0 < 33 := by omega
    have F := shF x0 ho
    have hfold : runG bs (m + 1, false) (sh (x0 : Int)) = (sh2 x0).foldl (stepG bs) ((sh1 x0).foldl (stepG bs) (startG (m + 1, false))) := by
      unfold runG
      rw [sh_at x0 ho, F.split, List.foldl_append]
    have hef := fun l => enc_fold bs hb l (sh1 x0) (startG (m + 1, false)) (m + 1) F.no rfl (by show 0 + _ ≤ _; have := F.kc3; omega) F.nc1
    have hkf := keep_fold bs (sh1 x0) (startG (m + 1, false)) F.no (by show 0 + _ ≤ _; have := F.kc3; omega)
    have hrg := rng_fold bs hb (sh1 x0) (startG (m + 1, false)) (by show rng 0; unfold rng; omega)
    rw [hfold]
    generalize (sh1 x0).foldl (stepG bs) (startG (m + 1, false)) = g1 at *
    have hsh : sh2 x0 = [] ∨ sh2 x0 = [108] := by unfold sh2; split <;> simp
    have hmany : g1.many = 0 := hkf.many
    rcases hsh with e2 | e2
    · rw [e2, List.foldl_nil]
      by_cases c4 : g1.p.2 = true
      · rw [if_pos c4]; intro h; exact absurd h (by show (4 : Int) ≠ 0; decide)
      rw [if_neg c4, hmany, if_neg (by omega)]
      rw [argsR_zero]
      dsimp only
      rw [if_neg c4]
      by_cases c7 : checkOf x0 g1.A g1.B g1.C g1.N [] 64 4096 ≠ 0
      · rw [if_pos c7]; intro h; exact absurd h (by show (5 : Int) ≠ 0; decide)
      rw [if_neg c7]
      dsimp only
      intro _ hn
      first
        | exact hrg
        | (obtain ⟨q1, q2⟩ := hef [] (by simpa using c4) (by omega)
           rw [enc_eq, sh_at x0 ho, F.split, e2, List.append_nil, Int.toNat_natCast, List.cons_append, ← hx0, q2]
           rw [show g1.p.1 = n from by omega]
           rfl)
    · rw [e2, List.foldl_cons, List.foldl_nil]
      by_cases c4 : (stepG bs g1 108).p.2 = true
      · rw [if_pos c4]; intro h; exact absurd h (by show (4 : Int) ≠ 0; decide)
      have c1 : ¬ g1.p.2 = true := fun h => c4 (stepG_sticky bs g1 108 h)
      rw [if_neg c4]
      have hst : stepG bs g1 108 = { g1 with many := (takeR bs 1 g1.p).1, p := (takeR bs 1 g1.p).2 } := by unfold stepG; rw [if_pos rfl]
      have hp : g1.p = (g1.p.1, false) := by
        rcases hg : g1.p with ⟨x, y⟩
        rw [hg] at c1
        simp at c1
        rw [c1]
      rcases Nat.lt_or_ge bs.length (g1.p.1 + 1) with hlt | hge
      · exfalso
        rw [hst, hp, takeR_short bs 1 _ hlt] at c4
        simp at c4
      have ht := takeR_one bs g1.p.1 hge
      rw [hp, ht] at hst
      rw [hst]
      dsimp only
      have hx1 : bs[g1.p.1]'hge :: bs.drop (g1.p.1 + 1) = bs.drop g1.p.1 := (List.drop_eq_getElem_cons hge).symm
      generalize bs[g1.p.1]'hge = x1 at *
      by_cases c5 : 8 < x1
      · rw [if_pos c5]; intro h; exact absurd h (by show (3 : Int) ≠ 0; decide)
      rw [if_neg c5]
      by_cases c6 : (argsR bs x1 (g1.p.1 + 1, false)).2.2 = true
      · rw [if_pos c6]; intro h; exact absurd h (by show (4 : Int) ≠ 0; decide)
      rw [if_neg c6]
      have hfit2 : g1.p.1 + 1 + x1 ≤ bs.length := by
        rcases Nat.lt_or_ge bs.length (g1.p.1 + 1 + x1) with h | h
        · exact absurd (argsR_short bs (g1.p.1 + 1) x1 hge h) c6
        · exact h
      rw [argsR_fine bs (g1.p.1 + 1) x1 hfit2]
      dsimp only
      generalize hl : ((bs.drop (g1.p.1 + 1)).take x1).map (fun (x : Nat) => (x : Int)) = l
      by_cases c7 : checkOf x0 g1.A g1.B g1.C g1.N l 64 4096 ≠ 0
      · rw [if_pos c7]; intro h; exact absurd h (by show (5 : Int) ≠ 0; decide)
      rw [if_neg c7]
      dsimp only
      intro _ hn
      first
        | exact hrg
        | (obtain ⟨q1, q2⟩ := hef l (by simpa using c1) (by omega)
           rw [enc_eq, sh_at x0 ho, F.split, e2, Int.toNat_natCast, encL_app, List.cons_append, List.append_assoc, ← hx0, q2]
           rw [show n = g1.p.1 + 1 + x1 from by omega]
           have eL : ∀ k, encL g1.A g1.B g1.C g1.N l [108] k = l.length :: l.map Int.toNat := fun k => by rw [encL_cons, if_pos rfl]; simp [encL]
           rw [eL, ← hl, List.length_map, List.length_take, List.length_drop, Nat.min_eq_left (by omega), List.map_map]
           have e3 : ((bs.drop (g1.p.1 + 1)).take x1).map (Int.toNat ∘ fun (x : Nat) => (x : Int)) = (bs.drop (g1.p.1 + 1)).take x1 := by
             rw [show (Int.toNat ∘ fun (x : Nat) => (x : Int)) = id from by funext x; simp, List.map_id]
           have hsp : (bs.drop (g1.p.1 + 1)).take x1 ++ bs.drop (g1.p.1 + 1 + x1) = bs.drop (g1.p.1 + 1) := by
             rw [show bs.drop (g1.p.1 + 1 + x1) = (bs.drop (g1.p.1 + 1)).drop x1 from by rw [List.drop_drop], List.take_append_drop]
           rw [e3, List.cons_append, ← hx1, hsp]
           rfl)
end Go.Proofs.YtihnkijeefkefaaGreat

namespace Go.Proofs.YtihnkijeefkefaaGreat
open Go.RowKit

attribute [local go_sem] Program.isFuncB Program.isSliceB

variable {w w' w'' w0 : World}

theorem bytes_nil (w : World) : Bytes w (.slice none 0 0) [] := ⟨.inl ⟨rfl, rfl, rfl⟩, by simp, by simp, fun k hk => by cases hk⟩
theorem k_f1 : getR [3, 0, 1] 0 = failG 4 3 := by kernel_rfl
theorem k_f2 : getR [33] 0 = failG 16 0 := by kernel_rfl
theorem k_f3 : getR [] 0 = failG 4 0 := by kernel_rfl
theorem k_f4 : getR [28, 3, 5, 9] 0 = failG 3 0 := by kernel_rfl
theorem k_f5 : getR [2, 64, 0] 0 = failG 5 0 := by kernel_rfl
theorem k_c1 : ckOf ⟨1, 1, 0, 0, -2, []⟩ = 0 := by kernel_rfl
theorem k_e1 : encE ⟨1, 1, 0, 0, -2, []⟩ = [1, 1, 254, 255, 255, 255, 255, 255, 255, 255] := by kernel_rfl
theorem k_c2 : ckOf ⟨28, 3, 0, 0, 5, [1, 2]⟩ = 0 := by kernel_rfl
theorem k_e2 : encE ⟨28, 3, 0, 0, 5, [1, 2]⟩ = [28, 3, 5, 2, 1, 2] := by kernel_rfl
theorem getR_nil : getR [] 1 = failG 2 0 := by kernel_rfl
theorem ck_mov : ckOf ⟨2, 64, 0, 0, 0, []⟩ = 5 := by kernel_rfl
theorem splitR_known : splitR [0, 0, 29, 1] 5 [] [] 0 = ⟨[⟨0, 0, 0, 0, 0, []⟩, ⟨0, 0, 0, 0, 0, []⟩, ⟨29, 1, 0, 0, 0, []⟩], [0, 1, 2], 0, 0⟩ := by kernel_rfl

end Go.Proofs.YtihnkijeefkefaaGreat

namespace Go.Proofs.YtihnkijeefkefaaGreat
open Go.RowKit

attribute [local go_sem] Program.isFuncB Program.isSliceB

variable {w w' w'' w0 : World}

theorem reads_cap {z n c : Nat} {a : Option Addr} {cs : List Value} (h : Reads w (.slice a n c) z n cs) : n ≤ c := by
  rcases h with ⟨h, h2, -⟩ | ⟨b, cap, h, h2, -⟩
  · cases h; exact Nat.le_refl _
  · cases h; exact h2
theorem reads_take {n c k : Nat} {a : Option Addr} {cs : List Value} (h : Reads w (.slice a n c) 1 n cs) (hk : k ≤ n) : Reads w (.slice a k c) 1 k (cs.take k) := by
  rcases h with ⟨h, h2, h3⟩ | ⟨b, cap, h, h2, h3, h4, h5⟩
  · cases h
    obtain rfl : k = 0 := by omega
    exact .inl ⟨rfl, rfl, by simp⟩
  · cases h
    refine .inr ⟨b, c, rfl, by omega, h3, by simp; omega, fun j u hu => ?_⟩
    rw [List.getElem?_take] at hu
    split at hu
    · exact h5 j u hu
    · cases hu

/-- no instruction's bytes begin another one's -/
theorem apart_law (x y : Ix) (hx : ckOf x = 0) (hy : ckOf y = 0) (hxN : rng x.N) (hyN : rng y.N) (n : Nat) (hn : n = min (encE x).length (encE y).length) : decide ((encE x).take n = (encE y).take n) = decide (x = y) := by
  have key : ∀ x y : Ix, ckOf x = 0 → ckOf y = 0 → rng x.N → rng y.N → (encE x).length ≤ (encE y).length → (encE y).take (encE x).length = encE x → x = y := by
    intro x y hx hy hxN hyN hl h
    have h1 := getR_enc x hx hxN (encE y) 0 ((encE y).drop (encE x).length) (by rw [List.drop_zero]; conv => lhs; rw [← List.take_append_drop (encE x).length (encE y), h])
    have h2 := getR_enc y hy hyN (encE y) 0 [] (by simp)
    rw [h1] at h2
    exact congrArg Gt.ix h2
  by_cases hxy : x = y
  · subst hxy; simp
  · rw [decide_eq_false hxy]
    refine decide_eq_false fun h => hxy ?_
    rcases Nat.le_total (encE x).length (encE y).length with hl | hl
    · rw [Nat.min_eq_left hl] at hn
      subst hn
      rw [List.take_length] at h
      exact key x y hx hy hxN hyN hl h.symm
    · rw [Nat.min_eq_right hl] at hn
      subst hn
      rw [List.take_length] at h
      exact (key y x hy hx hyN hxN hl h).symm

theorem code_two (w : World) (x y : Ix) (u v : Value) (hu : Reads w u 1 x.l.length (ints x.l)) (hv : Reads w v 1 y.l.length (ints y.l)) :
    CodeIn (w.alloc (.cells #[.int .i64 x.o, .int .i64 x.A, .int .i64 x.B, .int .i64 x.C, .int .i64 x.N, u, .int .i64 y.o, .int .i64 y.A, .int .i64 y.B, .int .i64 y.C, .int .i64 y.N, v] 112)) (some ⟨w.heap.size, 0, none⟩) [x, y] := by
  have r := (Fr.refl no w).alloc (.cells #[.int .i64 x.o, .int .i64 x.A, .int .i64 x.B, .int .i64 x.C, .int .i64 x.N, u, .int .i64 y.o, .int .i64 y.A, .int .i64 y.B, .int .i64 y.C, .int .i64 y.N, v] 112)
  intro k hk
  match k, hk with
  | 0, _ => exact ⟨_, 0, u, rfl, ⟨fun j x hj => cell_of_heap (heap_new w _) (by
      have : j < 6 := (List.getElem?_eq_some_iff.1 hj).1
      match j, this with
      | 0, _ => exact hj
      | 1, _ => exact hj
      | 2, _ => exact hj
      | 3, _ => exact hj
      | 4, _ => exact hj
      | 5, _ => exact hj), hu.fr r (by simp)⟩⟩
  | 1, _ => exact ⟨_, 0, v, rfl, ⟨fun j x hj => cell_of_heap (heap_new w _) (by
      have : j < 6 := (List.getElem?_eq_some_iff.1 hj).1
      match j, this with
      | 0, _ => exact hj
      | 1, _ => exact hj
      | 2, _ => exact hj
      | 3, _ => exact hj
      | 4, _ => exact hj
      | 5, _ => exact hj), hv.fr r (by simp)⟩⟩

end Go.Proofs.YtihnkijeefkefaaGreat

namespace Go.Proofs.YtihnkijeefkefaaGreat
open Go.RowKit

attribute [local go_sem] Program.isFuncB Program.isSliceB

variable {w w' w'' w0 : World}

/-! ### what is joined is split as it was -/
theorem joinCk_zero (is : List Ix) (h : joinCk is = 0) : (∀ i ∈ is, ckOf i = 0) ∧ (bytesOf is).length ≤ 4096 ∧ joinB is = bytesOf is := by
  have hb : joinB is = bytesOf is := by unfold joinB; rw [if_pos h]
  unfold joinCk at h
  split at h
  · rename_i i hf
    have := List.find?_some hf
    simp at this
    exact absurd h this
  · rename_i hf
    rw [List.find?_eq_none] at hf
    refine ⟨fun i hi => by simpa using hf i hi, ?_, hb⟩
    split at h
    · exact absurd h (by decide)
    · omega
theorem joinB_bad (is : List Ix) (h : joinCk is ≠ 0) : joinB is = [] := by unfold joinB; rw [if_neg h]
theorem bytesOf_lt (is : List Ix) : ∀ b ∈ bytesOf is, b < 256 := by
  intro b hb
  unfold bytesOf at hb
  rw [List.mem_flatMap] at hb
  obtain ⟨i, -, hi⟩ := hb
  exact encE_lt i b hi
theorem encE_pos (i : Ix) (h : ckOf i = 0) : 0 < (encE i).length := by
  unfold encE
  rw [if_pos h, enc_eq]
  simp
def placesOf (is : List Ix) : List Int := (List.range is.length).map fun k => ((bytesOf (is.take k)).length : Int)
theorem bytesOf_app (a b : List Ix) : bytesOf (a ++ b) = bytesOf a ++ bytesOf b := by simp [bytesOf]
theorem getR_at (is : List Ix) (hck : ∀ i ∈ is, ckOf i = 0) (hN : ∀ i ∈ is, rng i.N) (k : Nat) (hk : k < is.length) :
    getR (bytesOf is) ((bytesOf (is.take k)).length : Nat) = ⟨is[k], ((bytesOf (is.take (k + 1))).length : Nat), 0, 0⟩ := by
  have h0 : bytesOf is = bytesOf (is.take k) ++ (encE is[k] ++ bytesOf (is.drop (k + 1))) := by
    conv => lhs; rw [← List.take_append_drop k is, List.drop_eq_getElem_cons hk, bytesOf_app]
    rfl
  have := getR_enc is[k] (hck _ (List.getElem_mem _)) (hN _ (List.getElem_mem _)) (bytesOf is) (bytesOf (is.take k)).length (bytesOf (is.drop (k + 1))) (by rw [h0, List.drop_left' rfl])
  rw [this, List.take_succ_eq_append_getElem hk, bytesOf_snoc, List.length_append]
theorem splitR_join (is : List Ix) (hck : ∀ i ∈ is, ckOf i = 0) (hN : ∀ i ∈ is, rng i.N) : ∀ (n f k : Nat), k + n = is.length → n < f →
    splitR (bytesOf is) f (is.take k) ((List.range k).map fun j => ((bytesOf (is.take j)).length : Int)) (bytesOf (is.take k)).length = ⟨is, placesOf is, 0, 0⟩
  | 0, f, k, hk, hf => by
    obtain ⟨f, rfl⟩ : ∃ g, f = g + 1 := ⟨f - 1, by omega⟩
    obtain rfl : k = is.length := by omega
    unfold splitR
    rw [List.take_length, if_pos (Nat.le_refl _)]
    rfl
  | n + 1, f, k, hk, hf => by
    obtain ⟨f, rfl⟩ : ∃ g, f = g + 1 := ⟨f - 1, by omega⟩
    have hks : k < is.length := by omega
    have hlen : (bytesOf (is.take k)).length < (bytesOf is).length := by
      have h1 := encE_pos is[k] (hck _ (List.getElem_mem _))
      have h2 : bytesOf is = bytesOf (is.take k) ++ (encE is[k] ++ bytesOf (is.drop (k + 1))) := by
        conv => lhs; rw [← List.take_append_drop k is, List.drop_eq_getElem_cons hks, bytesOf_app]
        rfl
      have := congrArg List.length h2
      simp only [List.length_append] at this
      omega
    unfold splitR
    rw [if_neg (by omega), getR_at is hck hN k hks]
    dsimp only
    rw [if_neg (show ¬ ((0 : Int) ≠ 0) from by simp), Int.toNat_natCast]
    have := splitR_join is hck hN n f (k + 1) (by omega) (by omega)
    rw [List.take_succ_eq_append_getElem hks, List.range_succ, List.map_append] at this
    rw [List.take_succ_eq_append_getElem hks]
    exact this
theorem splitR_joined (is : List Ix) (hck : ∀ i ∈ is, ckOf i = 0) (hN : ∀ i ∈ is, rng i.N) : splitR (bytesOf is) ((bytesOf is).length + 1) [] [] 0 = ⟨is, placesOf is, 0, 0⟩ := by
  have hl : is.length ≤ (bytesOf is).length := by
    have : ∀ l : List Ix, (∀ i ∈ l, ckOf i = 0) → l.length ≤ (bytesOf l).length := by
      intro l
      induction l with
      | nil => intro _; exact Nat.zero_le _
      | cons i l ih =>
        intro h
        have h1 := encE_pos i (h i (by simp))
        have h2 := ih (fun j hj => h j (by simp [hj]))
        simp only [bytesOf, List.flatMap_cons, List.length_append, List.length_cons] at *
        omega
    exact this is hck
  have := splitR_join is hck hN is.length ((bytesOf is).length + 1) 0 (by omega) (by omega)
  exact this
theorem placesOf_len (is : List Ix) : (placesOf is).length = is.length := by simp [placesOf]
theorem placesOf_at (is : List Ix) (k : Nat) (hk : k < is.length) : (ints (placesOf is))[k]? = some (.int .i64 ((bytesOf (is.take k)).length : Nat)) := by
  simp [ints, placesOf, hk]

/-- instructions that were handed in -/
theorem code_of {n : Nat} {v : Value} {d : Dt} (h : Rd Tryz.prog w n 39 [v] d) : ∃ (sa : Option Addr) (c : Nat) (is : List Ix), v = .slice sa is.length c ∧ CodeIn w sa is ∧ is.length ≤ maxLen ∧ (∀ i ∈ is, i.l.length ≤ maxLen) ∧ ∀ i ∈ is, rng i.N := by
  obtain ⟨l, sa, cap, -, hcs, h1, h2, h3, h4⟩ := h.rows (z := 6) Tryz.underlying39 (by kernel_rfl) (by decide)
  obtain rfl : v = .slice sa l.length cap := by simpa using hcs
  have hd : ∀ i, i < l.length → ∃ ix : Ix, ix.l.length ≤ maxLen ∧ rng ix.N ∧ ∃ b o u, sa = some ⟨b, o, none⟩ ∧ InsIn w b (o + i * 6) ix u := by
    intro i hi
    obtain ⟨b, o, es, rfl, h5, h6, h7⟩ := h4 i hi
    obtain ⟨o', A, B, C, N, u, al, rfl, hr, hm, -, -, -, -, -, hN⟩ := ins_of h7
    refine ⟨⟨o', A, B, C, N, al⟩, hm, ?_, b, o, u, rfl, ⟨fun j v hj => h6 j v hj, hr⟩⟩
    have h8 : IntKind.i64.min ≤ N ∧ N ≤ IntKind.i64.max := by simpa [Lit.wf] using hN
    have h9 : IntKind.i64.min = -9223372036854775808 := by decide
    have h10 : IntKind.i64.max = 9223372036854775807 := by decide
    unfold rng
    dsimp only
    omega
  obtain ⟨is, hl, hp⟩ := list_of_each hd
  refine ⟨sa, cap, is, by rw [hl], fun k hk => (hp k hk).2.2, by omega, fun i hi => ?_, fun i hi => ?_⟩
  · obtain ⟨k, hk, rfl⟩ := List.getElem_of_mem hi
    exact (hp k hk).1
  · obtain ⟨k, hk, rfl⟩ := List.getElem_of_mem hi
    exact (hp k hk).2.1
end Go.Proofs.YtihnkijeefkefaaGreat

namespace Go.Proofs.YtihnkijeefkefaaGreat
open Go.RowKit

attribute [local go_sem] Program.isFuncB Program.isSliceB

variable {w w' w'' w0 : World}

/-! ### what is split is joined as it was; where it may be cut -/
structure Spl (bs : List Nat) (sp : Sp) : Prop where
  ck : ∀ i ∈ sp.is, ckOf i = 0
  n : ∀ i ∈ sp.is, rng i.N
  bytes : bytesOf sp.is = bs
  places : sp.ps = placesOf sp.is
theorem splitR_spl (bs : List Nat) (hb : ∀ b ∈ bs, b < 256) : ∀ (f : Nat) (is : List Ix) (ps : List Int) (a : Nat), bs.length < f + a → a ≤ bs.length → (∀ i ∈ is, ckOf i = 0) → (∀ i ∈ is, rng i.N) → bytesOf is = bs.take a → ps = placesOf is →
    ((splitR bs f is ps a).er = 0 ∧ Spl bs (splitR bs f is ps a)) ∨ ((splitR bs f is ps a).er ≠ 0 ∧ (splitR bs f is ps a).is = [] ∧ (splitR bs f is ps a).ps = [] ∧ 0 ≤ (splitR bs f is ps a).fa ∧ (splitR bs f is ps a).fa ≤ bs.length)
  | 0, is, ps, a, hf, ha, _, _, _, _ => by omega
  | f + 1, is, ps, a, hf, ha, h1, h2, h3, h4 => by
    unfold splitR
    by_cases c1 : bs.length ≤ a
    · rw [if_pos c1]
      refine .inl ⟨rfl, h1, h2, ?_, h4⟩
      show bytesOf is = bs
      rw [h3, List.take_of_length_le c1]
    rw [if_neg c1]
    by_cases c2 : (getR bs a).er ≠ 0
    · rw [if_pos c2]
      rcases getR_cases bs a with ⟨h, -⟩ | ⟨-, -, -, h5, h6⟩
      · exact absurd h c2
      · exact .inr ⟨c2, rfl, rfl, h5, h6⟩
    rw [if_neg c2]
    obtain ⟨m, n, hm, hn, hnl, hmn, hd, hck, hrn⟩ := getR_back bs hb a (Classical.not_not.1 c2)
    obtain rfl : a = m := by omega
    rw [hn, Int.toNat_natCast]
    have hE : encE (getR bs a).ix = (bs.drop a).take (n - a) := by
      have hl := congrArg List.length hd
      simp only [List.length_drop, List.length_append] at hl
      rw [hd, List.take_left' (by omega)]
    refine splitR_spl bs hb f _ _ n (by omega) hnl ?_ ?_ ?_ ?_
    · intro i hi
      rw [List.mem_append, List.mem_singleton] at hi
      rcases hi with hi | rfl
      · exact h1 i hi
      · exact hck
    · intro i hi
      rw [List.mem_append, List.mem_singleton] at hi
      rcases hi with hi | rfl
      · exact h2 i hi
      · exact hrn
    · rw [bytesOf_snoc, h3, hE]
      conv => rhs; rw [show n = a + (n - a) from by omega, List.take_add]
    · rw [h4]
      unfold placesOf
      rw [List.length_append, List.length_singleton, List.range_succ, List.map_append]
      congr 1
      · refine List.map_congr_left fun k hk => ?_
        rw [List.take_append_of_le_length (by have := List.mem_range.1 hk; omega)]
      · simp only [List.map_cons, List.map_nil]
        rw [List.take_left' rfl, h3, List.length_take, Nat.min_eq_left ha]
theorem split_spl (bs : List Nat) (hb : ∀ b ∈ bs, b < 256) : ((splitR bs (bs.length + 1) [] [] 0).er = 0 ∧ Spl bs (splitR bs (bs.length + 1) [] [] 0)) ∨ ((splitR bs (bs.length + 1) [] [] 0).er ≠ 0 ∧ (splitR bs (bs.length + 1) [] [] 0).is = [] ∧ (splitR bs (bs.length + 1) [] [] 0).ps = [] ∧ 0 ≤ (splitR bs (bs.length + 1) [] [] 0).fa ∧ (splitR bs (bs.length + 1) [] [] 0).fa ≤ bs.length) :=
  splitR_spl bs hb _ [] [] 0 (by omega) (Nat.zero_le _) (by simp) (by simp) (by simp [bytesOf]) (by simp [placesOf])
theorem spl_join {bs : List Nat} {sp : Sp} (h : Spl bs sp) (hl : bs.length ≤ 4096) : joinCk sp.is = 0 ∧ joinB sp.is = bs := by
  have : joinCk sp.is = 0 := by rw [joinCk_good _ h.ck, h.bytes, if_neg (by omega)]
  exact ⟨this, by unfold joinB; rw [if_pos this, h.bytes]⟩

theorem prefix_code : ∀ (js is : List Ix) (rest : List Nat), (∀ i ∈ js, ckOf i = 0) → (∀ i ∈ js, rng i.N) → (∀ i ∈ is, ckOf i = 0) → (∀ i ∈ is, rng i.N) → bytesOf is = bytesOf js ++ rest → js = is.take js.length ∧ js.length ≤ is.length
  | [], is, rest, _, _, _, _, _ => ⟨by simp, Nat.zero_le _⟩
  | j :: js, is, rest, h1, h2, h3, h4, h5 => by
    have hj := encE_pos j (h1 j (by simp))
    match is, h3, h4, h5 with
    | [], _, _, h5 =>
      have := congrArg List.length h5
      simp only [bytesOf, List.flatMap_nil, List.flatMap_cons, List.length_append, List.length_nil] at this
      omega
    | i :: is, h3, h4, h5 =>
      have e1 : bytesOf (j :: js) = encE j ++ bytesOf js := rfl
      have e2 : bytesOf (i :: is) = encE i ++ bytesOf is := rfl
      have g1 := getR_enc j (h1 j (by simp)) (h2 j (by simp)) (bytesOf (i :: is)) 0 (bytesOf js ++ rest) (by rw [List.drop_zero, h5, e1, List.append_assoc])
      have g2 := getR_enc i (h3 i (by simp)) (h4 i (by simp)) (bytesOf (i :: is)) 0 (bytesOf is) (by rw [List.drop_zero, e2])
      rw [g1] at g2
      obtain rfl : j = i := congrArg Gt.ix g2
      rw [e1, e2, List.append_assoc] at h5
      obtain ⟨q1, q2⟩ := prefix_code js is rest (fun x hx => h1 x (by simp [hx])) (fun x hx => h2 x (by simp [hx])) (fun x hx => h3 x (by simp [hx])) (fun x hx => h4 x (by simp [hx])) (List.append_cancel_left h5)
      refine ⟨?_, by simpa using q2⟩
      rw [List.length_cons, List.take_succ_cons, ← q1]
/-- cut anywhere but at a place, bytes are not split -/
theorem cut_law (bs : List Nat) (hb : ∀ b ∈ bs, b < 256) (sp : Sp) (h : Spl bs sp) (n : Nat) (hn : n ≤ bs.length) :
    decide ((splitR (bs.take n) ((bs.take n).length + 1) [] [] 0).er = 0) = decide (n = bs.length ∨ (n : Int) ∈ sp.ps) ∧
    ((splitR (bs.take n) ((bs.take n).length + 1) [] [] 0).er = 0 → (splitR (bs.take n) ((bs.take n).length + 1) [] [] 0).is = sp.is.take (splitR (bs.take n) ((bs.take n).length + 1) [] [] 0).is.length ∧ (splitR (bs.take n) ((bs.take n).length + 1) [] [] 0).is.length ≤ sp.is.length) := by
  have hps : sp.ps = (List.range sp.is.length).map fun k => ((bytesOf (sp.is.take k)).length : Int) := h.places
  have fwd : ∀ k, k ≤ sp.is.length → n = (bytesOf (sp.is.take k)).length → splitR (bs.take n) ((bs.take n).length + 1) [] [] 0 = ⟨sp.is.take k, placesOf (sp.is.take k), 0, 0⟩ := by
    intro k hk he
    have e : bs.take n = bytesOf (sp.is.take k) := by
      have : bs = bytesOf (sp.is.take k) ++ bytesOf (sp.is.drop k) := by rw [← bytesOf_app, List.take_append_drop, h.bytes]
      rw [this, he, List.take_left' rfl]
    rw [e]
    exact splitR_joined _ (fun i hi => h.ck i (List.mem_of_mem_take hi)) (fun i hi => h.n i (List.mem_of_mem_take hi))
  have back : (splitR (bs.take n) ((bs.take n).length + 1) [] [] 0).er = 0 → (splitR (bs.take n) ((bs.take n).length + 1) [] [] 0).is = sp.is.take (splitR (bs.take n) ((bs.take n).length + 1) [] [] 0).is.length ∧ (splitR (bs.take n) ((bs.take n).length + 1) [] [] 0).is.length ≤ sp.is.length ∧ n = (bytesOf (sp.is.take (splitR (bs.take n) ((bs.take n).length + 1) [] [] 0).is.length)).length := by
    intro h0
    rcases split_spl (bs.take n) (fun b hb' => hb b (List.mem_of_mem_take hb')) with ⟨-, hs⟩ | ⟨hs, -⟩
    · generalize splitR (bs.take n) ((bs.take n).length + 1) [] [] 0 = s2 at *
      obtain ⟨q1, q2⟩ := prefix_code s2.is sp.is (bs.drop n) hs.ck hs.n h.ck h.n (by rw [h.bytes, hs.bytes, List.take_append_drop])
      refine ⟨q1, q2, ?_⟩
      rw [← q1, hs.bytes, List.length_take, Nat.min_eq_left hn]
    · exact absurd h0 hs
  have iff : (splitR (bs.take n) ((bs.take n).length + 1) [] [] 0).er = 0 ↔ (n = bs.length ∨ (n : Int) ∈ sp.ps) := by
    constructor
    · intro h0
      obtain ⟨q1, q2, q3⟩ := back h0
      generalize (splitR (bs.take n) ((bs.take n).length + 1) [] [] 0).is.length = k at *
      by_cases hk : k = sp.is.length
      · left
        rw [q3, hk, List.take_length, h.bytes]
      · right
        rw [hps, List.mem_map]
        exact ⟨k, List.mem_range.2 (by omega), by rw [← q3]⟩
    · intro h0
      rcases h0 with h0 | h0
      · rw [fwd sp.is.length (Nat.le_refl _) (by rw [List.take_length, h.bytes]; exact h0)]
      · rw [hps, List.mem_map] at h0
        obtain ⟨k, hk, he⟩ := h0
        rw [fwd k (by have := List.mem_range.1 hk; omega) (by omega)]
  exact ⟨decide_eq_decide.2 iff, fun h0 => ⟨(back h0).1, (back h0).2.1⟩⟩

theorem CodeIn.take {sa : Option Addr} {is : List Ix} (h : CodeIn w sa is) (k : Nat) : CodeIn w sa (is.take k) := fun j hj => by
  have hj' : j < is.length := by simp at hj; omega
  obtain ⟨b, o, u, h1, h2⟩ := h j hj'
  refine ⟨b, o, u, h1, ?_⟩
  rw [List.getElem_take]
  exact h2

end Go.Proofs.YtihnkijeefkefaaGreat

namespace Go.Proofs.YtihnkijeefkefaaGreat
open Go.RowKit

attribute [local go_sem] Program.isFuncB Program.isSliceB

variable {w w' w'' w0 : World}

theorem take_mem_succ (ps : List Int) (j : Nat) (z n : Int) (h : ps[j]? = some z) (P : Prop) [Decidable P] (h0 : decide (P ∨ n ∈ ps.take j) = false) : decide (P ∨ n ∈ ps.take (j + 1)) = (z == n) := by
  obtain ⟨hj, rfl⟩ := List.getElem?_eq_some_iff.1 h
  rw [decide_eq_false_iff_not] at h0
  rw [List.take_succ_eq_append_getElem hj]
  by_cases hz : ps[j] = n
  · rw [decide_eq_true (.inr (by simp [hz])), hz]; simp
  · rw [decide_eq_false (fun h1 => ?_)]
    · simp [hz]
    · rcases h1 with h1 | h1
      · exact h0 (.inl h1)
      · rw [List.mem_append, List.mem_singleton] at h1
        rcases h1 with h1 | h1
        · exact h0 (.inr h1)
        · exact hz h1.symm
theorem take_mem_true (ps : List Int) (j : Nat) (n : Int) (P : Prop) [Decidable P] (h0 : decide (P ∨ n ∈ ps.take j) = true) : decide (P ∨ n ∈ ps.take (j + 1)) = true := by
  rw [decide_eq_true_eq] at h0 ⊢
  rcases h0 with h0 | h0
  · exact .inl h0
  · exact .inr ((List.take_subset_take_left ps (Nat.le_succ j)) h0)

end Go.Proofs.YtihnkijeefkefaaGreat

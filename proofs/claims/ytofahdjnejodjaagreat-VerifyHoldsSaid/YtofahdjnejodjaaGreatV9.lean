/- Modules that are accepted: the plain law (law12). -/
import Derived.Test.YtofahdjnejodjaaGreatV3
set_option linter.unusedSimpArgs false
set_option linter.unusedVariables false
set_option linter.unusedSectionVars false
set_option linter.unnecessarySimpa false
namespace Go.Proofs.YtofahdjnejodjaaGreat
open Go.RowKit Go.Flow Go.Sure

variable {w w' w'' w0 : World}

structure GoodFn (m : Mx) (f : Fx) : Prop where
  flow : flowCk f.c = 0
  ins : ∀ i ∈ f.c, insCk m i = 0
  unset : (unsetOf f.c f.p.toNat).1 < 0
structure Good (m : Mx) : Prop where
  ck : modCk m = 0
  p0 : ¬ 0 < (m.f.getD 0 fxNil).p
  fns : ∀ f ∈ m.f, GoodFn m f
theorem insFind_all {m : Mx} : ∀ (l : List Ix) (k : Nat), insFind m l k = none → ∀ i ∈ l, insCk m i = 0
  | [], _, _, i, hi => by cases hi
  | x :: l, k, h, i, hi => by
    unfold insFind at h
    split at h
    · cases h
    · rename_i hx
      rcases List.mem_cons.1 hi with rfl | hi
      · simpa using hx
      · exact insFind_all l (k + 1) h i hi
theorem fnFind_good {m : Mx} {f : Fx} (h : (fnFind m f).2 = 0) : GoodFn m f := by
  have key : ∀ (l : List Ix) (k : Nat) (r : Int × Int), insFind m l k = some r → r.2 ≠ 0 := by
    intro l
    induction l with
    | nil => intro k r hr; cases hr
    | cons i l ih =>
      intro k r hr
      unfold insFind at hr
      split at hr
      · rename_i hi; cases hr; exact hi
      · exact ih _ _ hr
  unfold fnFind at h
  by_cases hc : flowCk f.c = 0
  · rw [if_neg (by simpa using hc)] at h
    cases hx : insFind m f.c 0 with
    | some r => rw [hx] at h; exact absurd h (key _ _ _ hx)
    | none =>
      rw [hx] at h
      simp only at h
      refine ⟨hc, insFind_all _ _ hx, ?_⟩
      apply Classical.byContradiction
      intro ha
      rw [if_pos (by omega)] at h
      simp at h
  · rw [if_pos (by simpa using hc)] at h
    exact absurd h hc
theorem GoodFn.find {m : Mx} {f : Fx} (h : GoodFn m f) : fnFind m f = (-1, 0) := by
  unfold fnFind
  rw [h.flow, insFind_none f.c 0 (fun j hj => h.ins _ (List.getElem_mem hj))]
  simp only
  rw [if_neg (by decide), if_neg (by have := h.unset; omega)]
theorem Good.find {m : Mx} (h : Good m) : modFind m = (-1, -1, 0) := by
  unfold modFind
  rw [h.ck, if_neg (by decide), if_neg h.p0]
  exact fnsFind_none m.f 0 (fun j hj => by rw [(h.fns _ (List.getElem_mem hj)).find])
theorem fnsFind_all {m : Mx} : ∀ (l : List Fx) (k : Nat), (fnsFind m l k).2.2 = 0 → ∀ f ∈ l, (fnFind m f).2 = 0
  | [], _, _, f, hf => by cases hf
  | x :: l, k, h, f, hf => by
    unfold fnsFind at h
    split at h
    · rename_i hx; exact absurd h hx
    · rename_i hx
      rcases List.mem_cons.1 hf with rfl | hf
      · simpa using hx
      · exact fnsFind_all l (k + 1) h f hf
theorem modFind_good {m : Mx} (h : (modFind m).2.2 = 0) : Good m := by
  unfold modFind at h
  by_cases hc : modCk m = 0
  · rw [if_neg (by simpa using hc)] at h
    by_cases hp : 0 < (m.f.getD 0 fxNil).p
    · rw [if_pos hp] at h
      simp at h
    · rw [if_neg hp] at h
      exact ⟨hc, hp, fun f hf => fnFind_good (fnsFind_all _ _ h f hf)⟩
  · rw [if_pos (by simpa using hc)] at h
    exact absurd h hc

/-! ### module.Check, taken apart -/
theorem firstBad_z {α : Type} {p : α → Int} {l : List α} (h : firstBad p l = 0) : ∀ x ∈ l, p x = 0 := by
  intro x hx
  apply Classical.byContradiction
  intro hb
  unfold firstBad at h
  cases hf : l.find? (fun i => p i != 0) with
  | some g =>
    rw [hf] at h
    have := List.find?_some hf
    simp at this
    exact this h
  | none =>
    have := List.find?_eq_none.1 hf x hx
    simp at this
    exact hb this
theorem firstBad_a {α : Type} {p : α → Int} {l : List α} (h : ∀ x ∈ l, p x = 0) : firstBad p l = 0 := find_good p l (fun j hj => h _ (List.getElem_mem hj))
theorem modCk_iff {m : Mx} : modCk m = 0 ↔ m.d.length ≤ 8192 ∧ 1 ≤ m.f.length ∧ m.f.length ≤ 64 ∧ ∀ f ∈ m.f, fnCk f = 0 := by
  unfold modCk
  constructor
  · intro h
    split at h
    · omega
    split at h
    · omega
    · exact ⟨by omega, by omega, by omega, firstBad_z h⟩
  · rintro ⟨h1, h2, h3, h4⟩
    rw [if_neg (by omega), if_neg (by omega)]
    exact firstBad_a h4
theorem fnCk_iff {f : Fx} : fnCk f = 0 ↔ numBad f.p f.r f.a = false ∧ joinCk f.c = 0 ∧ ∀ i ∈ f.c, ckIn i f.r f.a = 0 := by
  unfold fnCk
  constructor
  · intro h
    split at h
    · omega
    rename_i h1
    split at h
    · omega
    rename_i h2
    exact ⟨by simpa using h1, by simpa using h2, firstBad_z h⟩
  · rintro ⟨h1, h2, h3⟩
    rw [if_neg (by simp [h1]), if_neg (by simp [h2])]
    exact firstBad_a h3

/-! ### more data, one function more -/
theorem Good.more {m : Mx} (h : Good m) (hd : m.d.length ≤ 300) (hf : m.f.length ≤ 6) (more : List Nat) (hm : more.length ≤ 100) (g : Fx) (hg : g ∈ m.f) : Good ⟨m.d ++ more, m.f ++ [g]⟩ := by
  obtain ⟨c1, c2, c3, c4⟩ := modCk_iff.1 h.ck
  have h0 : 0 < m.f.length := by omega
  have hget : ∀ k, k < m.f.length → (m.f ++ [g]).getD k fxNil = m.f.getD k fxNil := fun k hk => by
    rw [List.getD_eq_getElem?_getD, List.getD_eq_getElem?_getD, List.getElem?_append_left hk]
  have hmem : ∀ f, f ∈ m.f ++ [g] → f ∈ m.f := fun f hf => by
    rcases List.mem_append.1 hf with h1 | h1
    · exact h1
    · rw [List.mem_singleton] at h1; rw [h1]; exact hg
  refine ⟨modCk_iff.2 ⟨by simp; omega, by simp, by simp; omega, fun f hf => c4 f (hmem f hf)⟩, ?_, fun f hf => ?_⟩
  · show ¬ 0 < ((m.f ++ [g]).getD 0 fxNil).p
    rw [hget 0 h0]
    exact h.p0
  · have hG := h.fns f (hmem f hf)
    refine ⟨hG.flow, fun i hi => ?_, hG.unset⟩
    have h1 := hG.ins i hi
    have hN : i.o = 28 → 0 ≤ i.N := fun ho => (call_N ((joinCk_zero _ (flowCk_join hG.flow)).1 i hi) ho).1
    unfold insCk at h1 ⊢
    split at h1
    · omega
    rename_i q1
    split at h1
    · omega
    rename_i q2
    split at h1
    · omega
    rename_i q3
    have e1 : ¬ (i.o = 28 ∧ ((m.f ++ [g]).length : Int) ≤ i.N) := fun ⟨a, b⟩ => by simp at b; exact q1 ⟨a, by omega⟩
    have e2 : ¬ (i.o = 28 ∧ (i.l.length : Int) ≠ ((m.f ++ [g]).getD i.N.toNat fxNil).p) := fun ⟨a, b⟩ => by
      have := hN a
      rw [hget _ (by have : ¬ (m.f.length : Int) ≤ i.N := fun h => q1 ⟨a, h⟩; omega)] at b
      exact q2 ⟨a, b⟩
    have e3 : ¬ (i.o = 24 ∧ ((m.d ++ more).length : Int) < i.N) := fun ⟨a, b⟩ => by simp at b; exact q3 ⟨a, by omega⟩
    rw [if_neg e1, if_neg e2, if_neg e3]

/-! ### one instruction's number turned -/
def turnN (i : Ix) (N : Int) : Ix := { i with N := N }
theorem encSt_turn (A B C N N' : Int) (l : List Int) : ∀ (s : List UInt8) (st st' : List Nat × Nat), st.1.length = st'.1.length → st.2 = st'.2 →
    (s.foldl (stepE A B C N l) st).1.length = (s.foldl (stepE A B C N' l) st').1.length
  | [], st, st', h1, _ => h1
  | c :: s, st, st', h1, h2 => by
    rw [List.foldl_cons, List.foldl_cons]
    refine encSt_turn A B C N N' l s _ _ ?_ ?_
    · unfold stepE
      split
      · simp [h1]
      · simp [h1, le_len]
    · unfold stepE
      split
      · exact h2
      · simp [h2]
theorem enc_turn (i : Ix) (N' : Int) (h : ckOf i = 0) (h' : ckOf (turnN i N') = 0) : (encE (turnN i N')).length = (encE i).length := by
  unfold encE
  rw [if_pos h, if_pos h']
  exact encSt_turn i.A i.B i.C N' i.N i.l (sh i.o) _ _ rfl rfl
theorem sh_call : sh 28 = [119, 99, 108] := by kernel_rfl
theorem sh_data : sh 24 = [119, 100] := by kernel_rfl
theorem check_turn (i : Ix) (N' r a : Int) (ho : (i.o = 28 ∧ 0 ≤ N' ∧ N' ≤ 63) ∨ (i.o = 24 ∧ 0 ≤ N' ∧ N' ≤ 8192)) (h : ckIn i r a = 0) : ckIn (turnN i N') r a = 0 := by
  have hf := (fine_iff _ _ _ _ _ _ _ _).1 h
  refine (fine_iff _ _ _ _ _ _ _ _).2 ⟨hf.op, ?_, hf.few, hf.all, ?_⟩
  · have hl := hf.lim
    have hb : bareB i.o i.A i.B i.C N' i.l.length = bareB i.o i.A i.B i.C i.N i.l.length := by
      unfold bareB
      have hc : Lib.containsAny (sh i.o) numLetters = true := by
        rcases ho with ⟨ho, -⟩ | ⟨ho, -⟩ <;> rw [ho] <;> kernel_rfl
      rw [hc]
      rfl
    show ¬ (r < 0 ∨ 64 < r ∨ a < 0 ∨ 4096 < a ∨ bareB i.o i.A i.B i.C N' i.l.length = false)
    rw [hb]
    exact hl
  · show ¬ (sh i.o).any (fun c => !numOk c.toNat N' a) = true
    rcases ho with ⟨ho, h1, h2⟩ | ⟨ho, h1, h2⟩
    · rw [ho, sh_call]
      simp [numOk, h1, h2]
    · rw [ho, sh_data]
      simp [numOk, h1, h2]

theorem set_turn (is : List Ix) (i : Nat) (hi : i < is.length) (N' : Int) (h : ∀ j ∈ is, ckOf j = 0) (h' : ckOf (turnN is[i] N') = 0) (ht : tgtI (turnN is[i] N') = tgtI is[i]) : fis (is.set i (turnN is[i] N')) = fis is := by
  unfold fis
  rw [List.map_set]
  have e : fiOf (turnN is[i] N') = (is.map fiOf)[i]'(by simpa using hi) := by
    rw [List.getElem_map]
    unfold fiOf
    rw [enc_turn _ _ (h _ (List.getElem_mem hi)) h', ht]
    rfl
  rw [e]
  exact List.set_getElem_self _
theorem flow_turn (is : List Ix) (i : Nat) (hi : i < is.length) (N' : Int) (h : flowCk is = 0) (ho : (is[i].o = 28 ∧ 0 ≤ N' ∧ N' ≤ 63) ∨ (is[i].o = 24 ∧ 0 ≤ N' ∧ N' ≤ 8192)) :
    joinCk (is.set i (turnN is[i] N')) = 0 ∧ flowCk (is.set i (turnN is[i] N')) = 0 := by
  have hj := joinCk_zero is (flowCk_join h)
  have hc' : ckOf (turnN is[i] N') = 0 := check_turn _ _ _ _ ho (hj.1 _ (List.getElem_mem hi))
  have ht : tgtI (turnN is[i] N') = tgtI is[i] := by
    have h16 : hasB (sh is[i].o) 116 = false := by
      rcases ho with ⟨ho, -⟩ | ⟨ho, -⟩ <;> rw [ho] <;> kernel_rfl
    unfold tgtI
    show (if hasB (sh is[i].o) 116 = true then N' else -1) = _
    rw [h16]
    rfl
  have hfi := set_turn is i hi N' hj.1 hc' ht
  have hall : ∀ j ∈ is.set i (turnN is[i] N'), ckOf j = 0 := fun j hm => by
    rcases List.mem_or_eq_of_mem_set hm with hm | rfl
    · exact hj.1 j hm
    · exact hc'
  have hlen : (bytesOf (is.set i (turnN is[i] N'))).length = (bytesOf is).length := by
    have e1 := plc_fis (is.set i (turnN is[i] N')) is.length
    have e2 := plc_fis is is.length
    rw [hfi] at e1
    rw [List.take_of_length_le (by simp)] at e1
    rw [List.take_of_length_le (by simp)] at e2
    exact e1.symm.trans e2
  have hjn : joinCk (is.set i (turnN is[i] N')) = 0 := by
    rw [joinCk_good _ hall, hlen, if_neg (by omega)]
  refine ⟨hjn, ?_⟩
  unfold flowCk at h ⊢
  rw [hjn, hfi]
  rwa [flowCk_join h] at h

def turnM (m : Mx) (f i : Nat) (N' : Int) (fx : Fx) (ix : Ix) : Mx := ⟨m.d, m.f.set f { fx with c := fx.c.set i (turnN ix N') }⟩

theorem Good.turned {m : Mx} (h : Good m) (hd : m.d.length ≤ 300) (hfl : m.f.length ≤ 6) (f i : Nat) (hf : f < m.f.length) (hi : i < m.f[f].c.length) (N' e : Int)
    (ho : (m.f[f].c[i].o = 28 ∧ N' = m.f.length ∧ e = 13) ∨ (m.f[f].c[i].o = 24 ∧ N' = m.d.length + 1 ∧ e = 5)) : modFind (turnM m f i N' m.f[f] m.f[f].c[i]) = ((f : Int), (i : Int), e) := by
  obtain ⟨c1, c2, c3, c4⟩ := modCk_iff.1 h.ck
  have hG := h.fns _ (List.getElem_mem hf)
  have ho2 : (m.f[f].c[i].o = 28 ∧ 0 ≤ N' ∧ N' ≤ 63) ∨ (m.f[f].c[i].o = 24 ∧ 0 ≤ N' ∧ N' ≤ 8192) := by
    rcases ho with ⟨a, b, -⟩ | ⟨a, b, -⟩
    · exact .inl ⟨a, by omega, by omega⟩
    · exact .inr ⟨a, by omega, by omega⟩
  obtain ⟨j1, j2⟩ := flow_turn m.f[f].c i hi N' hG.flow ho2
  obtain ⟨f1, f2, f3⟩ := fnCk_iff.1 (c4 _ (List.getElem_mem hf))
  have hfx : fnCk { m.f[f] with c := m.f[f].c.set i (turnN m.f[f].c[i] N') } = 0 := fnCk_iff.2 ⟨f1, j1, fun j hj => by
    rcases List.mem_or_eq_of_mem_set hj with hj | rfl
    · exact f3 j hj
    · exact check_turn _ _ _ _ ho2 (f3 _ (List.getElem_mem hi))⟩
  have hlen : (turnM m f i N' m.f[f] m.f[f].c[i]).f.length = m.f.length := by simp [turnM]
  have hpar : ∀ k, ((turnM m f i N' m.f[f] m.f[f].c[i]).f.getD k fxNil).p = (m.f.getD k fxNil).p := fun k => by
    unfold turnM
    rw [List.getD_eq_getElem?_getD, List.getD_eq_getElem?_getD, List.getElem?_set]
    by_cases hk : f = k
    · subst hk
      simp [hf]
    · rw [if_neg hk]
  have hins : ∀ j, insCk (turnM m f i N' m.f[f] m.f[f].c[i]) j = insCk m j := fun j => by
    unfold insCk
    rw [hlen, hpar]
    rfl
  have hfind : ∀ g, fnFind (turnM m f i N' m.f[f] m.f[f].c[i]) g = fnFind m g := fun g => by
    have hif : ∀ (l : List Ix) (k : Nat), insFind (turnM m f i N' m.f[f] m.f[f].c[i]) l k = insFind m l k := by
      intro l
      induction l with
      | nil => intro k; rfl
      | cons x l ih => intro k; unfold insFind; rw [hins, ih]
    unfold fnFind
    rw [hif]
  have hx : ∀ j, (turnM m f i N' m.f[f] m.f[f].c[i]).f[j]? = if f = j then some { m.f[f] with c := m.f[f].c.set i (turnN m.f[f].c[i] N') } else m.f[j]? := fun j => by
    unfold turnM
    rw [List.getElem?_set]
    by_cases hk : f = j
    · subst hk; simp [hf]
    · rw [if_neg hk, if_neg hk]
  have hfe : fnFind (turnM m f i N' m.f[f] m.f[f].c[i]) { m.f[f] with c := m.f[f].c.set i (turnN m.f[f].c[i] N') } = ((i : Int), e) := by
    rw [hfind]
    have he : insCk m (turnN m.f[f].c[i] N') = e := by
      unfold insCk
      show (if m.f[f].c[i].o = 28 ∧ (m.f.length : Int) ≤ N' then 13 else if m.f[f].c[i].o = 28 ∧ (m.f[f].c[i].l.length : Int) ≠ (m.f.getD N'.toNat fxNil).p then 2 else if m.f[f].c[i].o = 24 ∧ (m.d.length : Int) < N' then 5 else 0) = e
      rcases ho with ⟨a, b, rfl⟩ | ⟨a, b, rfl⟩
      · rw [if_pos ⟨a, by omega⟩]
      · rw [if_neg (fun h => by omega), if_neg (fun h => by omega), if_pos ⟨a, by omega⟩]
    have hs := insFind_some (m := m) (m.f[f].c.set i (turnN m.f[f].c[i] N')) 0 i (by simpa using hi) (fun j hj hl => by
      rw [List.getElem_set_ne (by omega)]
      exact hG.ins _ (List.getElem_mem (by simpa using hl))) (by rw [List.getElem_set_self, he]; rcases ho with ⟨-, -, rfl⟩ | ⟨-, -, rfl⟩ <;> decide)
    rw [List.getElem_set_self, he, Nat.zero_add] at hs
    unfold fnFind
    show (if flowCk (m.f[f].c.set i (turnN m.f[f].c[i] N')) ≠ 0 then _ else _) = _
    rw [j2, if_neg (by decide)]
    show (match insFind m (m.f[f].c.set i (turnN m.f[f].c[i] N')) 0 with | some r => r | none => _) = _
    rw [hs]
  have hmod : modCk (turnM m f i N' m.f[f] m.f[f].c[i]) = 0 := modCk_iff.2 ⟨c1, by rw [hlen]; exact c2, by rw [hlen]; exact c3, fun g hg => by
    rcases List.mem_or_eq_of_mem_set hg with hg | rfl
    · exact c4 g hg
    · exact hfx⟩
  have hft : f < (turnM m f i N' m.f[f] m.f[f].c[i]).f.length := by rw [hlen]; exact hf
  have hat : (turnM m f i N' m.f[f] m.f[f].c[i]).f[f] = { m.f[f] with c := m.f[f].c.set i (turnN m.f[f].c[i] N') } := by
    have := hx f
    rw [if_pos rfl, List.getElem?_eq_getElem hft] at this
    exact Option.some.inj this
  have hs := fnsFind_some (m := turnM m f i N' m.f[f] m.f[f].c[i]) (turnM m f i N' m.f[f] m.f[f].c[i]).f 0 f hft (fun j hj hl => by
    have := hx j
    rw [if_neg (by omega), List.getElem?_eq_getElem hl, List.getElem?_eq_getElem (by rw [hlen] at hl; exact hl)] at this
    rw [Option.some.inj this, hfind, (h.fns _ (List.getElem_mem _)).find]) (by rw [hat, hfe]; rcases ho with ⟨-, -, rfl⟩ | ⟨-, -, rfl⟩ <;> simp)
  unfold modFind
  rw [hmod, if_neg (by decide), hpar, if_neg h.p0, hs, hat, hfe, Nat.zero_add]

end Go.Proofs.YtofahdjnejodjaaGreat

import Derived.Test.YtihnkijeefkefaaGreatQ19
set_option linter.unusedSimpArgs false
set_option linter.unusedVariables false
set_option linter.unusedSectionVars false
set_option linter.unnecessarySimpa false
set_option maxRecDepth 100000
/- Modules as rows that can be read whole. -/
namespace Go.Proofs.YtihnkijeefkefaaGreat
open Go.RowKit

variable {w w' w'' w0 : World}

/-- code that can be read whole -/
def CodeRd (w : World) (v : Value) (is : List Ix) : Prop := ∃ l : List (Ix × Value), l.map Prod.fst = is ∧ Reads w v 6 l.length (cellsOf l) ∧ ∀ p ∈ l, Reads w p.2 1 p.1.l.length (ints p.1.l)
structure ModRd (w : World) (m : Mx) (da : Option Addr) (dc : Nat) (fa : Option Addr) (fc : Nat) : Prop where
  data : Reads w (.slice da m.d.length dc) 1 m.d.length (u8s m.d)
  fns : ∃ l : List FxV, l.map Prod.fst = m.f ∧ Reads w (.slice fa m.f.length fc) 4 l.length (fCells l) ∧ ∀ p ∈ l, CodeRd w p.val p.1.c
theorem CodeRd.fr {v : Value} {is : List Ix} (h : CodeRd w v is) (r : Fr no w w') : CodeRd w' v is := by
  obtain ⟨l, e, h1, h2⟩ := h
  exact ⟨l, e, h1.fr r (by simp), fun p hp => (h2 p hp).fr r (by simp)⟩
theorem ModRd.fr {m : Mx} {da fa : Option Addr} {dc fc : Nat} (h : ModRd w m da dc fa fc) (r : Fr no w w') : ModRd w' m da dc fa fc := by
  obtain ⟨h0, l, e, h1, h2⟩ := h
  exact ⟨h0.fr r (by simp), l, e, h1.fr r (by simp), fun p hp => (h2 p hp).fr r⟩
theorem CodeOwn.rd {base : Nat} {v : Value} {is : List Ix} (h : CodeOwn w base v is) : CodeRd w v is := by
  obtain ⟨l, e, h1, h2⟩ := h
  exact ⟨l, e, owns_reads h1, fun p hp => owns_reads (h2 p hp)⟩
theorem ModOwn.rd {base : Nat} {m : Mx} {xa oa : Option Addr} {xc oc : Nat} (h : ModOwn w base m xa xc oa oc) : ModRd w m xa xc oa oc := by
  obtain ⟨h1, l, h2, h3⟩ := h
  have hl : l.length = m.f.length := by rw [← h2, List.length_map]
  refine ⟨owns_reads h1, l, h2, ?_, fun p hp => (h3.code p hp).rd⟩
  have := owns_reads h3.row
  exact this
theorem code_in {v : Value} {is : List Ix} (h : CodeRd w v is) : ∃ a c, v = .slice a is.length c ∧ CodeIn w a is := by
  obtain ⟨l, rfl, h1, h2⟩ := h
  obtain ⟨a, c, rfl⟩ := h1.shape
  refine ⟨a, c, by rw [List.length_map], fun k hk => ?_⟩
  have hk' : k < l.length := by simpa using hk
  obtain ⟨b, o, e, hat⟩ := reads_elem (z := 6) h1 (by decide) hk'
  refine ⟨b, o, l[k].2, e, ⟨fun j v hj => ?_, ?_⟩⟩
  · have hj6 : j < 6 := (List.getElem?_eq_some_iff.1 hj).1
    simp only [List.getElem_map] at hj
    refine hat j v ?_
    rw [List.getElem?_take_of_lt hj6, List.getElem?_drop, cellsOf_get l k j hk' hj6]
    exact hj
  · have := h2 l[k] (List.getElem_mem hk')
    simpa using this
theorem ModRd.modIn {m : Mx} {da fa : Option Addr} {dc fc : Nat} (h : ModRd w m da dc fa fc) : ModIn w m da dc fa := by
  obtain ⟨h0, l, e, h1, h2⟩ := h
  have hl : l.length = m.f.length := by rw [← e, List.length_map]
  rw [← hl] at h1
  refine ⟨h0, fun k hk => ?_⟩
  have hk' : k < l.length := by omega
  obtain ⟨b, o, e1, hat⟩ := reads_elem (z := 4) h1 (by decide) hk'
  obtain ⟨ca, cc, e2, h3⟩ := code_in (h2 l[k] (List.getElem_mem hk'))
  have e3 : m.f[k] = l[k].1 := by
    have : (l.map Prod.fst)[k]'(by simpa using hk') = m.f[k] := by simp only [e]
    rw [← this, List.getElem_map]
  refine ⟨b, o, ca, cc, e1, ⟨fun j v hj => ?_, by rw [e3]; exact h3⟩⟩
  have hj4 : j < 4 := (List.getElem?_eq_some_iff.1 hj).1
  refine hat j v ?_
  rw [List.getElem?_take_of_lt hj4, List.getElem?_drop, fCells_get l k j hk' hj4, e2, ← e3]
  exact hj

/-! ### rows as they are handed in -/
theorem reads_rows {z n cap : Nat} {sa : Option Addr} {cs : List Value} (hz : 0 < z) (h1 : n ≤ cap) (h2 : cap ≤ maxLen) (h3 : sa = none → cap = 0) (hl : cs.length = n * z)
    (hc : ∀ i, i < n → ∃ b o, sa = some ⟨b, o, none⟩ ∧ ∀ j u, j < z → cs[i * z + j]? = some u → w.cell? ⟨b, o + i * z + j, none⟩ = some u) : Reads w (.slice sa n cap) z n cs := by
  cases sa with
  | none =>
    have := h3 rfl
    have h0 : n = 0 := by omega
    subst h0
    left
    refine ⟨by rw [this], rfl, ?_⟩
    apply List.length_eq_zero_iff.1
    omega
  | some a =>
    refine .inr ⟨a, cap, rfl, h1, h2, hl, fun j u hj => ?_⟩
    have hlt : j < n * z := by
      have := (List.getElem?_eq_some_iff.1 hj).1
      omega
    have hq : j / z < n := by
      rw [Nat.div_lt_iff_lt_mul hz]
      exact hlt
    obtain ⟨b, o, e, h⟩ := hc (j / z) hq
    cases e
    have hd : j / z * z + j % z = j := Nat.div_add_mod' j z
    have := h (j % z) u (Nat.mod_lt _ hz) (by rw [hd]; exact hj)
    rw [Addr.add_lit]
    rw [Nat.add_assoc, hd] at this
    exact this
theorem code_rd_of {n : Nat} {v : Value} {d : Dt} (h : Rd Tryz.prog w n 39 [v] d) : ∃ (sa : Option Addr) (c : Nat) (is : List Ix), v = .slice sa is.length c ∧ CodeRd w (.slice sa is.length c) is ∧ is.length ≤ maxLen ∧ (∀ i ∈ is, i.l.length ≤ maxLen) ∧ ∀ i ∈ is, rng i.N := by
  obtain ⟨l, sa, cap, -, hcs, h1, h2, h3, h4⟩ := h.rows (z := 6) Tryz.underlying39 (by kernel_rfl) (by decide)
  obtain rfl : v = .slice sa l.length cap := by simpa using hcs
  have hd : ∀ i, i < l.length → ∃ q : Ix × Value, q.1.l.length ≤ maxLen ∧ rng q.1.N ∧ Reads w q.2 1 q.1.l.length (ints q.1.l) ∧ ∃ b o, sa = some ⟨b, o, none⟩ ∧ ∀ j u, (q.1.cells q.2)[j]? = some u → w.cell? ⟨b, o + i * 6 + j, none⟩ = some u := by
    intro i hi
    obtain ⟨b, o, es, rfl, h5, h6, h7⟩ := h4 i hi
    obtain ⟨o', A, B, C, N, u, al, rfl, hr, hm, -, -, -, -, -, hN⟩ := ins_of h7
    refine ⟨(⟨o', A, B, C, N, al⟩, u), hm, ?_, hr, b, o, rfl, fun j v hj => h6 j v hj⟩
    have h8 : IntKind.i64.min ≤ N ∧ N ≤ IntKind.i64.max := by simpa [Lit.wf] using hN
    have h9 : IntKind.i64.min = -9223372036854775808 := by decide
    have h10 : IntKind.i64.max = 9223372036854775807 := by decide
    unfold rng
    dsimp only
    omega
  obtain ⟨qs, hl, hp⟩ := list_of_each hd
  refine ⟨sa, cap, qs.map Prod.fst, by rw [List.length_map, hl], ⟨qs, rfl, ?_, fun p hp' => ?_⟩, by rw [List.length_map]; omega, fun i hi => ?_, fun i hi => ?_⟩
  · rw [List.length_map]
    refine reads_rows (by decide) (by omega) h2 h3 (cellsOf_len qs) (fun i hi => ?_)
    obtain ⟨-, -, -, b, o, e, hc⟩ := hp i hi
    exact ⟨b, o, e, fun j u hj hu => hc j u (by rw [← cellsOf_get qs i j hi hj]; exact hu)⟩
  · obtain ⟨k, hk, rfl⟩ := List.getElem_of_mem hp'
    exact (hp k hk).2.2.1
  · obtain ⟨q, hq, rfl⟩ := List.mem_map.1 hi
    obtain ⟨k, hk, rfl⟩ := List.getElem_of_mem hq
    exact (hp k hk).1
  · obtain ⟨q, hq, rfl⟩ := List.mem_map.1 hi
    obtain ⟨k, hk, rfl⟩ := List.getElem_of_mem hq
    exact (hp k hk).2.1
theorem fn_rd_of {n : Nat} {cs : List Value} {d : Dt} (h : Rd Tryz.prog w n 41 cs d) : ∃ (f : Fx) (ca : Option Addr) (cc : Nat), cs = f.cells (.slice ca f.c.length cc) ∧ CodeRd w (.slice ca f.c.length cc) f.c ∧ f.c.length ≤ maxLen ∧ (∀ i ∈ f.c, i.l.length ≤ maxLen) ∧ ∀ i ∈ f.c, rng i.N := by
  obtain ⟨fl, -, hlen, -, hf⟩ := h.fields (z := 4) Tryz.underlying41 (by kernel_rfl)
  obtain ⟨a0, a1, a2, a3, rfl⟩ := len_four cs hlen
  obtain ⟨_, -, r0⟩ := hf 0 3 0 1 rfl (by kernel_rfl)
  obtain ⟨_, -, r1⟩ := hf 1 3 1 1 rfl (by kernel_rfl)
  obtain ⟨_, -, r2⟩ := hf 2 3 2 1 rfl (by kernel_rfl)
  obtain ⟨_, -, r3⟩ := hf 3 39 3 1 rfl (by kernel_rfl)
  obtain ⟨p, e0, -, -⟩ := r0.int Tryz.underlying3
  obtain ⟨r, e1, -, -⟩ := r1.int Tryz.underlying3
  obtain ⟨a, e2, -, -⟩ := r2.int Tryz.underlying3
  obtain ⟨sa, c, is, e3, h1, h2, h3, h4⟩ := code_rd_of (v := a3) r3
  simp at e0 e1 e2
  subst e0 e1 e2 e3
  exact ⟨⟨p, r, a, is⟩, sa, c, rfl, h1, h2, h3, h4⟩
theorem mod_rd_of {n : Nat} {cs : List Value} {d : Dt} (h : Rd Tryz.prog w n 25 cs d) : ∃ (m : Mx) (da : Option Addr) (dc : Nat) (fa : Option Addr) (fc : Nat), cs = [.slice da m.d.length dc, .slice fa m.f.length fc] ∧ ModRd w m da dc fa fc ∧ m.Raw := by
  obtain ⟨fl, -, hlen, -, hf⟩ := h.fields (z := 2) Tryz.underlying25 (by kernel_rfl)
  obtain ⟨a0, a1, rfl⟩ := len_two cs hlen
  obtain ⟨_, -, r0⟩ := hf 0 22 0 1 rfl (by kernel_rfl)
  obtain ⟨_, -, r1⟩ := hf 1 23 1 1 rfl (by kernel_rfl)
  obtain ⟨bs, hr, hlt, hm⟩ := bytes_of (v := a0) r0
  obtain ⟨da, dc, rfl⟩ := hr.shape
  obtain ⟨l, sa, cap, -, hcs, h1, h2, h3, h4⟩ := Rd.rows (cs := [a1]) (z := 4) Tryz.underlying23 (by kernel_rfl) (by decide) r1
  obtain rfl : a1 = .slice sa l.length cap := by simpa using hcs
  have hd : ∀ i, i < l.length → ∃ f : FxV, (f.1.c.length ≤ maxLen ∧ (∀ j ∈ f.1.c, j.l.length ≤ maxLen) ∧ ∀ j ∈ f.1.c, rng j.N) ∧ CodeRd w f.val f.1.c ∧ ∃ b o, sa = some ⟨b, o, none⟩ ∧ ∀ j u, (f.1.cells f.val)[j]? = some u → w.cell? ⟨b, o + i * 4 + j, none⟩ = some u := by
    intro i hi
    obtain ⟨b, o, es, rfl, h5, h6, h7⟩ := h4 i hi
    obtain ⟨f, ca, cc, rfl, q1, q2, q3, q4⟩ := fn_rd_of h7
    exact ⟨(f, ca, cc), ⟨q2, q3, q4⟩, q1, b, o, rfl, fun j v hj => h6 j v hj⟩
  obtain ⟨fs, hl, hp⟩ := list_of_each hd
  refine ⟨⟨bs, fs.map Prod.fst⟩, da, dc, sa, cap, by rw [List.length_map, hl], ⟨hr, fs, rfl, ?_, fun p hp' => ?_⟩, ⟨hm, by show (fs.map Prod.fst).length ≤ maxLen; rw [List.length_map]; omega, fun f hf => ?_, fun f hf => ?_, fun f hf => ?_, hlt⟩⟩
  · show Reads w (.slice sa (fs.map Prod.fst).length cap) 4 fs.length (fCells fs)
    rw [List.length_map]
    refine reads_rows (by decide) (by omega) h2 h3 (fCells_len fs) (fun i hi => ?_)
    obtain ⟨-, -, b, o, e, hc⟩ := hp i hi
    exact ⟨b, o, e, fun j u hj hu => hc j u (by rw [← fCells_get fs i j hi hj]; exact hu)⟩
  · obtain ⟨k, hk, rfl⟩ := List.getElem_of_mem hp'
    exact (hp k hk).2.1
  · obtain ⟨q, hq, rfl⟩ := List.mem_map.1 hf
    obtain ⟨k, hk, rfl⟩ := List.getElem_of_mem hq
    exact (hp k hk).1.1
  · obtain ⟨q, hq, rfl⟩ := List.mem_map.1 hf
    obtain ⟨k, hk, rfl⟩ := List.getElem_of_mem hq
    exact (hp k hk).1.2.1
  · obtain ⟨q, hq, rfl⟩ := List.mem_map.1 hf
    obtain ⟨k, hk, rfl⟩ := List.getElem_of_mem hq
    exact (hp k hk).1.2.2

/-! ### one element of a row is turned -/
theorem fCells_set : ∀ (l : List FxV) (k : Nat) (p : FxV) (hk : k < l.length), p.1 = l[k].1 → fCells (l.set k p) = (fCells l).set (k * 4 + 3) p.val
  | q :: l, 0, p, _, h => by
    have h : p.1 = q.1 := h
    show p.1.cells p.val ++ fCells l = (q.1.cells q.val ++ fCells l).set 3 p.val
    rw [h]
    rfl
  | q :: l, k + 1, p, hk, h => by
    show q.1.cells q.val ++ fCells (l.set k p) = (q.1.cells q.val ++ fCells l).set ((k + 1) * 4 + 3) p.val
    have hl : (q.1.cells q.val).length = 4 := rfl
    rw [List.set_append_right _ _ (by omega), hl, show (k + 1) * 4 + 3 - 4 = k * 4 + 3 from by omega, fCells_set l k p (by simpa using hk) h]
theorem cellsOf_set : ∀ (l : List (Ix × Value)) (k : Nat) (p : Ix × Value) (hk : k < l.length), p.1 = l[k].1 → cellsOf (l.set k p) = (cellsOf l).set (k * 6 + 5) p.2
  | q :: l, 0, p, _, h => by
    have h : p.1 = q.1 := h
    show p.1.cells p.2 ++ cellsOf l = (q.1.cells q.2 ++ cellsOf l).set 5 p.2
    rw [h]
    rfl
  | q :: l, k + 1, p, hk, h => by
    show q.1.cells q.2 ++ cellsOf (l.set k p) = (q.1.cells q.2 ++ cellsOf l).set ((k + 1) * 6 + 5) p.2
    have hl : (q.1.cells q.2).length = 6 := rfl
    rw [List.set_append_right _ _ (by omega), hl, show (k + 1) * 6 + 5 - 6 = k * 6 + 5 from by omega, cellsOf_set l k p (by simpa using hk) h]
theorem map_set_same {α : Type} {l : List (Ix × α)} {k : Nat} {p : Ix × α} (hk : k < l.length) (h : p.1 = l[k].1) : (l.set k p).map Prod.fst = l.map Prod.fst := by
  apply List.ext_getElem?
  intro i
  rw [List.getElem?_map, List.getElem?_map, List.getElem?_set]
  split
  · rename_i e
    subst e
    simp [hk, h]
  · rfl
theorem map_set_sameF {l : List FxV} {k : Nat} {p : FxV} (hk : k < l.length) (h : p.1 = l[k].1) : (l.set k p).map Prod.fst = l.map Prod.fst := by
  apply List.ext_getElem?
  intro i
  rw [List.getElem?_map, List.getElem?_map, List.getElem?_set]
  split
  · rename_i e
    subst e
    simp [hk, h]
  · rfl
theorem cellsOf_one {l : List (Ix × Value)} (h : ∀ p ∈ l, ∃ a n c, p.2 = .slice a n c) : ∀ u ∈ cellsOf l, u.oneCell' = true := by
  intro u hu
  obtain ⟨p, hp, hu⟩ := List.mem_flatMap.1 hu
  obtain ⟨a, n, c, e⟩ := h p hp
  simp only [Ix.cells, List.mem_cons, List.not_mem_nil, or_false] at hu
  rcases hu with rfl | rfl | rfl | rfl | rfl | rfl <;> first | rfl | (rw [e]; rfl)
theorem fCells_one (l : List FxV) : ∀ u ∈ fCells l, u.oneCell' = true := by
  intro u hu
  obtain ⟨p, hp, hu⟩ := List.mem_flatMap.1 hu
  simp only [Fx.cells, FxV.val, List.mem_cons, List.not_mem_nil, or_false] at hu
  rcases hu with rfl | rfl | rfl | rfl <;> rfl
theorem ints_one (l : List Int) : ∀ u ∈ ints l, u.oneCell' = true := by
  intro u hu
  obtain ⟨i, -, rfl⟩ := List.mem_map.1 hu
  rfl

end Go.Proofs.YtihnkijeefkefaaGreat

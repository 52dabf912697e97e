/- Rows of numbers whose spare room holds numbers too: what an append keeps. Over any program. -/
import Derived.Test.YtdngflhfhmnipaaGreatLA
set_option linter.unusedSimpArgs false
set_option linter.unusedVariables false
set_option linter.unusedSectionVars false
set_option linter.unnecessarySimpa false
namespace Go
def Nums (k : IntKind) (w : World) (v : Value) : Prop := ∀ g cur t z, v.ownBlock = some g → w.heap[g]? = some (.cells cur t z) → ∀ x ∈ cur.toList, ∃ n : Int, x = .int k n
variable {w w' : World} {k : IntKind} {v : Value}
theorem Nums.nil (k : IntKind) (w : World) (n c : Nat) : Nums k w (.slice none n c) := fun _ _ _ _ h => by cases h
theorem Nums.len {a : Option Addr} {n n' c c' : Nat} (h : Nums k w (.slice a n c)) : Nums k w (.slice a n' c') := fun g cur t z hg => h g cur t z (by cases a <;> exact hg)
theorem Nums.frx {S : Nat → Prop} (h : Nums k w v) (r : Fr S w w') (hl : ∀ g, v.ownBlock = some g → g < w.heap.size) (hS : ∀ g, v.ownBlock = some g → ¬ S g) : Nums k w' v := fun g cur t z hg hh =>
  h g cur t z hg (by rw [← r.block g (hl g hg) (hS g hg)]; exact hh)
theorem Nums.fr (h : Nums k w v) (r : Fr no w w') (hl : ∀ g, v.ownBlock = some g → g < w.heap.size) : Nums k w' v := h.frx r hl (by simp)
theorem Nums.made {cs : Array Value} {e : TypeId} {n c : Nat} (h : ∀ x ∈ cs.toList, ∃ n : Int, x = .int k n) : Nums k (w.alloc (.cells cs e)) (.slice (some ⟨w.heap.size, 0, none⟩) n c) := fun g cur t z hg hh => by
  have : w.heap.size = g := by simpa [Value.ownBlock] using hg
  subst this
  rw [heap_new] at hh
  cases hh
  exact h
theorem zero_mem {z : Value} (hz : z.cells = #[z]) (n : Nat) : ∀ x ∈ (Builtin.zeroCells z.cells n).toList, x = z := by
  intro x hx
  rw [hz] at hx
  simp only [Builtin.zeroCells, Array.toList_map, List.mem_map] at hx
  obtain ⟨i, -, rfl⟩ := hx
  simp [Nat.mod_one]

theorem run_append_nu {P : Program} (w : World) (base : Nat) (t ty e : TypeId) (i : TypeInfo) (z : Value) (bytes : Nat) (ht : P.underlying t = some (.slice e)) (hi : P.info? e = some i) (hz : i.zero = some z)
    (hsize : i.size = 1) (hby : i.bytes = bytes) (hzs : z.cells = #[z]) {zn : Int} (hzk : z = .int k zn)
    (v : Value) (n : Nat) (xs : List Value) (hown : w.ownsRow base e 1 v n xs)
    (a : Addr) (m c : Nat) (news : List Value) (hl : news.length = m * 1) (hnews : ∀ j u, news[j]? = some u → w.cell? (a.add j) = some u) (h1 : ∀ u ∈ news, u.oneCell' = true)
    (h63 : n + m ≤ maxLen) (hbytes : (n + m) * bytes ≤ 140737488355328) (hbase : base ≤ w.heap.size) (hN : Nums k w v) (hnu : ∀ u ∈ news, ∃ q : Int, u = .int k q) :
    ∃ v' w', (Builtin.append_ #[t, t] ty #[v, .slice (some a) m c]).run P w = .ok v' w' ∧ w'.ownsRow base e 1 v' (n + m) (xs ++ news) ∧ w.grownBy w' v.ownBlock ∧
      (v'.ownBlock = v.ownBlock ∨ v'.ownBlock = some w.heap.size) ∧ Nums k w' v' := by
  obtain ⟨v', w', hrun, ho, hg, hw⟩ := run_append_where (P := P) w base t ty e i z 1 bytes ht hi hz hsize hby (by rw [hzs]; rfl) (by decide) v n xs hown a m c news hl hnews h1 h63 hbytes hbase
  refine ⟨v', w', hrun, ho, hg, hw, ?_⟩
  have h63' : n + m ≤ 9223372036854775807 := by simpa [maxLen] using h63
  rcases hown.2 with ⟨rfl, rfl⟩ | ⟨g, cap, cur, rfl, hb, hh, h2, h3, h4, h5⟩
  · by_cases hm : m = 0
    · have h0 := ho.2
      rcases h0 with ⟨rfl, -⟩ | ⟨g, cap, cur, rfl, -, hgg, hcap, -, -, htk⟩
      · exact Nums.nil _ _ _ _
      · exfalso
        obtain ⟨v2, w2, hrun2, -, -, hnil⟩ := run_append_own (P := P) w base t ty e i z 1 bytes ht hi hz hsize hby (by rw [hzs]; rfl) (by decide) (.slice none 0 0) 0 xs hown a m c news hl hnews h1 h63 hbytes hbase
        rw [hrun] at hrun2
        cases hrun2
        have := hnil.2 ⟨rfl, hm⟩
        cases this
    · have := run_append_nil (P := P) w t ty e i z ht hi hz a m c news (by rw [hl, hsize]) hnews (by omega) (by omega) (by rw [hby]; simp at hbytes; omega)
      rw [this] at hrun
      cases hrun
      refine Nums.made (w := w.drew) (fun x hx => ?_)
      rw [Array.toList_append, List.mem_append] at hx
      rcases hx with hx | hx
      · exact hnu x (by simpa using hx)
      · exact ⟨zn, by rw [zero_mem hzs _ x hx, hzk]⟩
  · have hcur : ∀ x ∈ cur.toList, ∃ q : Int, x = .int k q := hN g cur e (0, 0) rfl hh
    by_cases hroom : n + m ≤ cap
    · have hfit : n * i.size + news.length ≤ cur.size := by
        rw [hl, h4, hsize, ← Nat.add_mul]
        exact Nat.mul_le_mul_right _ hroom
      have := run_append_room (P := P) w t ty e i ht hi g n cap cur hh a m c news (by rw [hl, hsize]) hnews h1 hroom hfit
      rw [this] at hrun
      cases hrun
      intro g' cur' t' z' hg' hh'
      have : g = g' := by simpa [Value.ownBlock] using hg'
      subst this
      rw [show (w.setRow g (cur.toList.take (n * i.size) ++ news ++ cur.toList.drop (n * i.size + news.length)).toArray).heap[g]? = some (.cells (cur.toList.take (n * i.size) ++ news ++ cur.toList.drop (n * i.size + news.length)).toArray e (0, 0)) from by
        simp [World.setRow, Array.getElem?_modify, hh]] at hh'
      cases hh'
      intro x hx
      simp only [List.mem_append] at hx
      rcases hx with (hx | hx) | hx
      · exact hcur x (List.mem_of_mem_take hx)
      · exact hnu x hx
      · exact hcur x (List.mem_of_mem_drop hx)
    · have := run_append_grow (P := P) w t ty e i z ht hi hz ⟨g, 0, none⟩ n cap xs (by rw [hown.1, hsize]) (hown.cells rfl) a m c news (by rw [hl, hsize]) hnews (by omega) (by omega)
        (growslice_fits (by omega) (by rw [hby]; exact hbytes))
      rw [this] at hrun
      cases hrun
      refine Nums.made (w := w.drew) (fun x hx => ?_)
      rw [Array.toList_append, Array.toList_append, List.mem_append, List.mem_append] at hx
      rcases hx with (hx | hx) | hx
      · have hx' : x ∈ xs := by simpa using hx
        rw [← h5] at hx'
        exact hcur x (List.mem_of_mem_take hx')
      · exact hnu x (by simpa using hx)
      · exact ⟨zn, by rw [zero_mem hzs _ x hx, hzk]⟩

/-- append onto a row of numbers of the call's own -/
theorem wpList_append_nu {P : Program} {w : World} {ops : Array Oper} {rest : List Oper} {o : Oper} {a : Act} {Q : Exit → Act → World → Prop} {k : IntKind} (hgd : o.guard = none) (s x : Operand) (t : TypeId)
    (ho : o.op = .call { callee := .builtin .append, args := #[s, x], argTypes := #[t, t] })
    (base : Nat) (e : TypeId) (zn : Int) (bytes : Nat) (ht : P.underlying t = some (.slice e)) (hi : (P.info? e).map (fun i => (i.zero, i.size, i.bytes)) = some (some (.int k zn), 1, bytes))
    (v : Value) (n : Nat) (xs : List Value) (hs : a.eval s = v) (hown : w.ownsRow base e 1 v n xs)
    (m : Nat) (news : List Value) (hr : Reads w (a.eval x) 1 m news) (h1 : ∀ u ∈ news, u.oneCell' = true)
    (h63 : n + m ≤ maxLen) (hbytes : (n + m) * bytes ≤ 140737488355328) (hbase : base ≤ w.heap.size) (hN : Nums k w v) (hnu : ∀ u ∈ news, ∃ q : Int, u = .int k q)
    (h : ∀ a' c' w', w'.ownsRow base e 1 (.slice a' (n + m) c') (n + m) (xs ++ news) → w.grownBy w' v.ownBlock →
      (∀ k, (Value.slice a' (n + m) c').ownBlock = some k → v.ownBlock = some k ∨ k = w.heap.size) → Nums k w' (.slice a' (n + m) c') → wpList P ops Q rest (a.put o.dst (.slice a' (n + m) c')) w') : wpList P ops Q (o :: rest) a w := by
  obtain ⟨i0, hi, hz0, hz1, hz2⟩ := info_parts hi
  rcases hr with ⟨hx, rfl, rfl⟩ | ⟨ad, cap, hx, _, _, hl, hc⟩
  · obtain ⟨a', c', hv⟩ := owns_shape hown
    refine wpList_append_own_none hgd s x t ho base e i0 1 ht hi v n xs hs hown hx ?_
    have := h a' c' w (by simpa [← hv] using hown) (World.grownBy.refl w _) (fun k hk => .inl (by rw [hv]; exact hk)) (by have := hN; rw [hv] at this; exact this)
    rw [hv]; exact this
  · obtain ⟨v', w', hrun, h2, h3, h4, h5⟩ := run_append_nu (P := P) w base t o.type e i0 (.int k zn) bytes ht hi hz0 hz1 hz2 rfl rfl v n xs hown ad m cap news hl hc h1 h63 hbytes hbase hN hnu
    refine wpList_plain hgd fun K hK => ?_
    obtain ⟨a', c', hv⟩ := owns_shape h2
    subst hv
    have hk := h a' c' w' h2 h3 (fun k hk => by
      rcases h4 with h4 | h4
      · exact .inl (h4 ▸ hk)
      · rw [h4] at hk; exact .inr (Option.some.inj hk).symm) h5
    unfold Oper.wp
    simp [execOp, ho, resolve, invoke, builtin, hs, hx, hrun, Result.andThen]
    exact hK _ _ hk
end Go

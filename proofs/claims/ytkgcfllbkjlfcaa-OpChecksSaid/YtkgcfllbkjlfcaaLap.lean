/- One append as a loud operation of a region that draws its order. Over any program. -/
import Derived.Test.YtkgcfllbkjlfcaaBase
import Derived.Test.YtkgcfllbkjlfcaaLex
import Derived.Laws.Rows
import Derived.Laws.Tables
namespace Go
/-- append onto a row of the call's own, whatever readable source; it tells where the row lies then. -/
theorem wp_append_at {P : Program} {w : World} {o : Oper} {a : Act} {K : Act → World → Prop} {Q : Exit → Act → World → Prop} (s x : Operand) (t : TypeId)
    (ho : o.op = .call { callee := .builtin .append, args := #[s, x], argTypes := #[t, t] })
    (base : Nat) (e : TypeId) (z : Value) (size bytes : Nat) (ht : P.underlying t = some (.slice e)) (hi : (P.info? e).map (fun i => (i.zero, i.size, i.bytes)) = some (some z, size, bytes))
    (hzs : z.cells.size = size) (hsz : 0 < size)
    (v : Value) (n : Nat) (xs : List Value) (hs : a.eval s = v) (hown : w.ownsRow base e size v n xs)
    (m : Nat) (news : List Value) (hr : Reads w (a.eval x) size m news) (h1 : ∀ u ∈ news, u.oneCell' = true)
    (h63 : n + m ≤ maxLen) (hbytes : (n + m) * bytes ≤ 140737488355328) (hbase : base ≤ w.heap.size)
    (h : ∀ a' c' w', w'.ownsRow base e size (.slice a' (n + m) c') (n + m) (xs ++ news) → w.grownBy w' v.ownBlock →
      (∀ k, (Value.slice a' (n + m) c').ownBlock = some k → v.ownBlock = some k ∨ k = w.heap.size) → K (a.put o.dst (.slice a' (n + m) c')) w') : o.wp P a w K Q := by
  obtain ⟨i0, hi, hz0, hz1, hz2⟩ := info_parts hi
  rcases hr with ⟨hx, rfl, rfl⟩ | ⟨ad, cap, hx, _, _, hl, hc⟩
  · obtain ⟨a', c', hv⟩ := owns_shape hown
    have hrun := run_append_owned_none (P := P) (w := w) base t o.type e i0 size ht hi v n xs hown
    have hk := h a' c' w (by simpa [← hv] using hown) (World.grownBy.refl w _) (fun k hk => .inl (by rw [hv]; exact hk))
    rw [show (n + 0) = n from rfl, ← hv] at hk
    unfold Oper.wp
    simp [execOp, ho, resolve, invoke, builtin, hs, hx, hrun, Result.andThen]
    exact hk
  · obtain ⟨v', w', hrun, h2, h3, h4⟩ := run_append_where (P := P) w base t o.type e i0 z size bytes ht hi hz0 hz1 hz2 hzs hsz v n xs hown ad m cap news hl hc h1 h63 hbytes hbase
    obtain ⟨a', c', hv⟩ := owns_shape h2
    subst hv
    have hk := h a' c' w' h2 h3 (fun k hk => by
      rcases h4 with h4 | h4
      · exact .inl (h4 ▸ hk)
      · rw [h4] at hk; exact .inr (Option.some.inj hk).symm)
    unfold Oper.wp
    simp [execOp, ho, resolve, invoke, builtin, hs, hx, hrun, Result.andThen]
    exact hk
/-- a whole struct or array is loaded, in a region that draws its order -/
theorem Lex.row {P : Program} {ops : Array Oper} {L : List Nat} {S : World → Prop} {K : Act → World → Prop} {k n : Nat} {o : Oper} {l : List Oper} {a : Act} {w : World}
    (hL : L.contains k = false) (hw : Region.wanted o (yielded ops a.tmps) = true) (ty : TypeId) (x : Operand) (ho : o.op = .load ty x) (g : Nat) (hx : a.eval x = .pointer (some ⟨g, 0, none⟩))
    (t : TypeId) (cs : Array Value) (fr : Nat × Nat) (d : TypeDesc) (hS : ∀ w', S w' → w'.heap[g]? = some (.cells cs t fr)) (hu : P.underlying ty = some d)
    (hd : (match d with | .struct _ | .array _ _ => true | _ => false) = true) (hi : (P.info? ty).map (·.size) = some cs.size)
    (h : walkO P ops L S K (k + 1) n l (a.put o.dst (.agg cs)) w) : walkO P ops L S K k (n + 1) (o :: l) a w :=
  Lex.quiet hL hw (fun w' hw' => by
    unfold execOp
    simp only [ho, hx, Instr.loadAt, Instr.sureAddr, Sem.run_bind, Sem.run_pure, Result.andThen_ok, run_loadVar_row w' g t ty cs fr d (hS w' hw') hu hd hi]) h
end Go

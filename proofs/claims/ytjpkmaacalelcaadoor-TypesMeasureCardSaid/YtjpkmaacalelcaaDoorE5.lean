/- Structs in memory of their own: the kit's CopyStructs (law24). -/
import Derived.Test.YtjpkmaacalelcaaDoorD5
import Derived.Test.YtjpkmaacalelcaaDoorY19
import Derived.Test.YtjpkmaacalelcaaDoorEl
set_option linter.unusedSimpArgs false
set_option linter.unusedVariables false
set_option linter.unusedSectionVars false
set_option linter.unnecessarySimpa false
set_option maxRecDepth 100000
namespace Go.Proofs.YtjpkmaacalelcaaDoor
open Go.RowKit Go.Ty Go.Deep

attribute [local go_sem] Program.isFuncB Program.isSliceB

variable {w w' w'' w0 : World}

def fdC (l : List (Ty.Fd × Value)) : List Value := l.flatMap fun p => [.string p.1.nm, .int .i64 p.1.t.b, .int .i64 p.1.t.s, p.2]
theorem fdC_len (l : List (Ty.Fd × Value)) : (fdC l).length = l.length * 4 := by
  induction l with
  | nil => rfl
  | cons p l ih => unfold fdC at ih ⊢; rw [List.flatMap_cons, List.length_append, ih, List.length_cons]; simp; omega
theorem fdC_at : ∀ (l : List (Ty.Fd × Value)) (k : Nat) (h : k < l.length), ((fdC l).drop (k * 4)).take 4 = [.string l[k].1.nm, .int .i64 l[k].1.t.b, .int .i64 l[k].1.t.s, l[k].2]
  | p :: l, 0, _ => rfl
  | p :: l, k + 1, h => by
    have e : fdC (p :: l) = [.string p.1.nm, .int .i64 p.1.t.b, .int .i64 p.1.t.s, p.2] ++ fdC l := rfl
    rw [e, List.drop_append, List.drop_of_length_le (by simp; omega), List.nil_append, show (k + 1) * 4 - [Value.string p.1.nm, .int .i64 p.1.t.b, .int .i64 p.1.t.s, p.2].length = k * 4 from by simp; omega]
    exact fdC_at l k (by simpa using h)
def stC (l : List (St × Value)) : List Value := l.flatMap fun p => [.string p.1.nm, p.2]
theorem stC_len (l : List (St × Value)) : (stC l).length = l.length * 2 := by
  induction l with
  | nil => rfl
  | cons p l ih => unfold stC at ih ⊢; rw [List.flatMap_cons, List.length_append, ih, List.length_cons]; simp; omega
theorem stC_at : ∀ (l : List (St × Value)) (k : Nat) (h : k < l.length), ((stC l).drop (k * 2)).take 2 = [.string l[k].1.nm, l[k].2]
  | p :: l, 0, _ => rfl
  | p :: l, k + 1, h => by
    have e : stC (p :: l) = [.string p.1.nm, p.2] ++ stC l := rfl
    rw [e, List.drop_append, List.drop_of_length_le (by simp; omega), List.nil_append, show (k + 1) * 2 - [Value.string p.1.nm, p.2].length = k * 2 from by simp; omega]
    exact stC_at l k (by simpa using h)
/-- fields in memory of their own -/
def FOwn (w : World) (B : Nat) (v : Value) (fs : List Ty.Fd) : Prop :=
  ∃ l : List (Ty.Fd × Value), l.map Prod.fst = fs ∧ w.ownsRow B 55 4 v fs.length (fdC l) ∧ ∀ p ∈ l, w.ownsRow B 3 1 p.2 p.1.t.ms.length (ints p.1.t.ms)
def SOwn (w : World) (B : Nat) (v : Value) (ss : List St) : Prop :=
  ∃ l : List (St × Value), l.map Prod.fst = ss ∧ w.ownsRow B 53 2 v ss.length (stC l) ∧ ∀ p ∈ l, FOwn w B p.2 p.1.fs
theorem FOwn.fr {B : Nat} {v : Value} {fs : List Ty.Fd} (h : FOwn w B v fs) (r : Fr no w w') : FOwn w' B v fs := by
  obtain ⟨l, h1, h2, h3⟩ := h
  exact ⟨l, h1, owns_fr h2 r (by simp), fun p hp => owns_fr (h3 p hp) r (by simp)⟩
theorem SOwn.fr {B : Nat} {v : Value} {ss : List St} (h : SOwn w B v ss) (r : Fr no w w') : SOwn w' B v ss := by
  obtain ⟨l, h1, h2, h3⟩ := h
  exact ⟨l, h1, owns_fr h2 r (by simp), fun p hp => (h3 p hp).fr r⟩
theorem FOwn.base {B B' : Nat} {v : Value} {fs : List Ty.Fd} (h : FOwn w B v fs) (hb : B' ≤ B) : FOwn w B' v fs := by
  obtain ⟨l, h1, h2, h3⟩ := h
  exact ⟨l, h1, owns_base h2 (fun k hk => by have := (h2.lt k hk).1; omega), fun p hp => owns_base (h3 p hp) (fun k hk => by have := ((h3 p hp).lt k hk).1; omega)⟩
theorem SOwn.base {B B' : Nat} {v : Value} {ss : List St} (h : SOwn w B v ss) (hb : B' ≤ B) : SOwn w B' v ss := by
  obtain ⟨l, h1, h2, h3⟩ := h
  exact ⟨l, h1, owns_base h2 (fun k hk => by have := (h2.lt k hk).1; omega), fun p hp => (h3 p hp).base hb⟩
/-- blocks of one type turn: fields' rows stay -/
theorem FOwn.odd {S : Nat → Prop} {B : Nat} {v : Value} {fs : List Ty.Fd} (h : FOwn w B v fs) (r : Fr S w w') (hS : ∀ k, S k → ∃ cs, w.heap[k]? = some (.cells cs 53 (0, 0))) : FOwn w' B v fs := by
  obtain ⟨l, h1, h2, h3⟩ := h
  refine ⟨l, h1, owns_fr h2 r (fun k hk hs => ?_), fun p hp => owns_fr (h3 p hp) r (fun k hk hs => ?_)⟩
  · obtain ⟨cs, hc⟩ := hS k hs
    exact row_block_ne h2 hc (by decide) hk
  · obtain ⟨cs, hc⟩ := hS k hs
    exact row_block_ne (h3 p hp) hc (by decide) hk
theorem owns_at {B z n : Nat} {e : TypeId} {v : Value} {xs : List Value} (h : w.ownsRow B e z v n xs) (h0 : 0 < n) : ∃ g c, v = .slice (some ⟨g, 0, none⟩) n c ∧ ∃ cs, w.heap[g]? = some (.cells cs e (0, 0)) ∧ cs.toList.take (n * z) = xs := by
  rcases h.2 with ⟨_, h1⟩ | ⟨g, cap, cs, hv, -, hg, -, -, -, hx⟩
  · omega
  · exact ⟨g, cap, hv, cs, hg, hx⟩
theorem FOwn.inn {B : Nat} {fa : Option Addr} {c : Nat} {fs : List Ty.Fd} (h : FOwn w B (.slice fa fs.length c) fs) : FsIn w fa fs := by
  obtain ⟨l, h1, h2, h3⟩ := h
  intro k hk
  obtain ⟨g, c', hv, cs, hg, hx⟩ := owns_at h2 (by omega)
  cases hv
  have hkl : k < l.length := by rw [← h1, List.length_map] at hk; exact hk
  have hlk : l[k].1 = fs[k] := by subst h1; rw [List.getElem_map]
  have hp := h3 l[k] (List.getElem_mem hkl)
  obtain ⟨ma, mc, hm⟩ := owns_shape hp
  refine ⟨g, 0, ma, mc, rfl, ?_, ?_⟩
  · rw [← hlk, ← hm, Nat.zero_add]
    refine At.sub hg ?_
    have := fdC_at l k hkl
    rw [← hx, List.drop_take] at this
    have e : fs.length = l.length := by rw [← h1, List.length_map]
    rw [List.take_take] at this
    rw [show min 4 (fs.length * 4 - k * 4) = 4 by omega] at this
    exact this
  · rw [← hlk]
    unfold TIn
    rw [← hm]
    exact owns_reads hp
theorem SOwn.inn {B : Nat} {sa : Option Addr} {c : Nat} {ss : List St} (h : SOwn w B (.slice sa ss.length c) ss) : SlIn w sa ss := by
  obtain ⟨l, h1, h2, h3⟩ := h
  intro k hk
  obtain ⟨g, c', hv, cs, hg, hx⟩ := owns_at h2 (by omega)
  cases hv
  have hkl : k < l.length := by rw [← h1, List.length_map] at hk; exact hk
  have hlk : l[k].1 = ss[k] := by subst h1; rw [List.getElem_map]
  have hp := h3 l[k] (List.getElem_mem hkl)
  obtain ⟨fa, fc, hm⟩ : ∃ fa fc, l[k].2 = .slice fa l[k].1.fs.length fc := by
    obtain ⟨l', q1, q2, q3⟩ := hp
    exact owns_shape q2
  refine ⟨g, 0, fa, fc, rfl, ?_, ?_⟩
  · rw [← hlk, ← hm, Nat.zero_add]
    refine At.sub hg ?_
    have := stC_at l k hkl
    rw [← hx, List.drop_take] at this
    have e : ss.length = l.length := by rw [← h1, List.length_map]
    rw [List.take_take] at this
    rw [show min 2 (ss.length * 2 - k * 2) = 2 by omega] at this
    exact this
  · rw [← hlk]
    rw [hm] at hp
    exact hp.inn
theorem infoFd3 : (Tryd.prog.info? 55).map (fun i => (i.zero, i.size, i.bytes)) = some (some (.agg zeroFd), 4, 56) := by kernel_rfl
theorem infoSt3 : (Tryd.prog.info? 53).map (fun i => (i.zero, i.size, i.bytes)) = some (some (.agg #[.string { data := #[] }, .slice none 0 0]), 2, 40) := by kernel_rfl

end Go.Proofs.YtjpkmaacalelcaaDoor

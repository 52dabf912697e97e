/- module.Get: what it tells; where it stands. -/
import Derived.Test.YtdngflhfhmnipaaGreatM14
import Derived.Test.YtdngflhfhmnipaaGreatLK
set_option linter.unusedSimpArgs false
set_option linter.unusedVariables false
set_option linter.unusedSectionVars false
set_option linter.unnecessarySimpa false
namespace Go.Proofs.YtdngflhfhmnipaaGreat
open Go.RowKit

attribute [local go_sem] Program.isFuncB Program.isSliceB

variable {w w' w'' w0 : World}

def getB (bs : List Nat) : List Nat × Pl := blockP bs 8192 (headP bs)
def getC (bs : List Nat) : List Nat × Pl := takeP bs 1 (getB bs).2
def getN (bs : List Nat) : Nat := unle (getC bs).1
def getD (bs : List Nat) : Pl := if (getC bs).2.er = 0 ∧ (getN bs < 1 ∨ 64 < getN bs) then failP (getC bs).2 2 (getB bs).2.at_ else (getC bs).2
def loopP (bs : List Nat) : Nat → List Fx × Pl → List Fx × Pl
  | 0, x => x
  | k + 1, x => let y := loopP bs k x; if y.2.er = 0 then (y.1 ++ (functionP bs y.2).1, (functionP bs y.2).2) else y
def getE (bs : List Nat) : List Fx × Pl := loopP bs (getN bs) ([], getD bs)
def getMx (bs : List Nat) : Mx := ⟨(getB bs).1, (getE bs).1⟩
def getF (bs : List Nat) : Pl := if (getE bs).2.at_ < bs.length then failP (getE bs).2 4 (getE bs).2.at_ else (getE bs).2
def getG (bs : List Nat) : Pl := if modCk (getMx bs) ≠ 0 then failP (getF bs) 2 0 else getF bs
def getM (bs : List Nat) : Mx × Int × Int := if (getG bs).er ≠ 0 then (⟨[], []⟩, (getG bs).er, (getG bs).fa) else (getMx bs, 0, 0)

theorem headS_at (bs : List Nat) (k : Nat) : (headS bs k).at_ = 0 := by unfold headS; split <;> rfl
theorem headP_at (bs : List Nat) : (headP bs).at_ ≤ bs.length := takeP_le (by rw [headS_at]; omega)
theorem getB_at (bs : List Nat) : (getB bs).2.at_ ≤ bs.length := blockP_at bs 8192 _ (headP_at bs)
theorem getC_at (bs : List Nat) : (getC bs).2.at_ ≤ bs.length := takeP_le (getB_at bs)
theorem getD_at (bs : List Nat) : (getD bs).at_ ≤ bs.length := by
  unfold getD
  split
  · rw [failP_at]; exact getC_at bs
  · exact getC_at bs
theorem fnD_at (bs : List Nat) (s : Pl) (h : s.at_ ≤ bs.length) : (fnD bs s).2.at_ ≤ bs.length := blockP_at bs 4096 _ (takeP_le (takeP_le (takeP_le h)))
theorem functionP_at (bs : List Nat) (s : Pl) (h : s.at_ ≤ bs.length) : (functionP bs s).2.at_ ≤ bs.length := by
  unfold functionP
  split
  · exact fnD_at bs s h
  · dsimp only
    split
    · rw [failP_at]; exact fnD_at bs s h
    · exact fnD_at bs s h
theorem takeP_few (bs : List Nat) (n : Nat) (s : Pl) : (takeP bs n s).1.length ≤ bs.length := by
  unfold takeP
  split
  · simp
  · split
    · simp
    · simp; omega
theorem functionP_small (bs : List Nat) (s : Pl) (hb : bs.length ≤ 1000) : (functionP bs s).1.length ≤ 1 ∧ ∀ f ∈ (functionP bs s).1, f.Small := by
  unfold functionP
  split
  · exact ⟨by simp, fun f hf => by cases hf⟩
  · refine ⟨by simp, fun f hf => ?_⟩
    simp only [List.mem_singleton] at hf
    subst hf
    have h1 : (fnD bs s).1.length ≤ bs.length := takeP_few _ _ _
    refine ⟨?_, fun i hi => ?_⟩
    · have := (splitR_len (fnD bs s).1 ((fnD bs s).1.length + 1) [] [] 0 (Nat.le_refl _) rfl (Nat.zero_le _)).2
      have h2 := (splitR_len (fnD bs s).1 ((fnD bs s).1.length + 1) [] [] 0 (Nat.le_refl _) rfl (Nat.zero_le _)).1
      show (fnSp bs s).is.length ≤ 1000
      unfold fnSp
      omega
    · have := splitR_few (fnD bs s).1 ((fnD bs s).1.length + 1) [] [] 0 (by intro i hi; cases hi) i hi
      omega
theorem functionP_len (bs : List Nat) (s : Pl) : (functionP bs s).1.length ≤ 1 := by
  unfold functionP
  split <;> simp
theorem loopP_len (bs : List Nat) (s : Pl) : ∀ k, (loopP bs k ([], s)).1.length ≤ k
  | 0 => by simp [loopP]
  | k + 1 => by
    have h1 := loopP_len bs s k
    have e : loopP bs (k + 1) ([], s) = (if (loopP bs k ([], s)).2.er = 0 then ((loopP bs k ([], s)).1 ++ (functionP bs (loopP bs k ([], s)).2).1, (functionP bs (loopP bs k ([], s)).2).2) else loopP bs k ([], s)) := rfl
    rw [e]
    split
    · have := functionP_len bs (loopP bs k ([], s)).2
      simp only [List.length_append]
      omega
    · omega
theorem loopP_facts (bs : List Nat) (hb : bs.length ≤ 1000) (s : Pl) (hs : s.at_ ≤ bs.length) : ∀ k, (loopP bs k ([], s)).1.length ≤ k ∧ (∀ f ∈ (loopP bs k ([], s)).1, f.Small) ∧ (loopP bs k ([], s)).2.at_ ≤ bs.length
  | 0 => ⟨by simp [loopP], fun f hf => (by cases hf), hs⟩
  | k + 1 => by
    obtain ⟨h1, h2, h3⟩ := loopP_facts bs hb s hs k
    unfold loopP
    dsimp only
    split
    · have hf := functionP_small bs (loopP bs k ([], s)).2 hb
      refine ⟨by simp only [List.length_append]; omega, fun f hm => ?_, functionP_at bs _ h3⟩
      rcases List.mem_append.1 hm with hm | hm
      · exact h2 f hm
      · exact hf.2 f hm
    · exact ⟨by omega, h2, h3⟩

theorem getMx_small (bs : List Nat) (hb : bs.length ≤ 1000) (hlt : ∀ b ∈ bs, b < 256) : (getMx bs).Small := by
  have hN : getN bs < 256 := by
    have h1 := takeP_lt hlt 1 (getB bs).2
    have h2 := takeP_len bs 1 (getB bs).2 (getB_at bs)
    have := unle_lt (getC bs).1 h1
    have h3 : 256 ^ (getC bs).1.length ≤ 256 ^ 1 := Nat.pow_le_pow_right (by decide) h2
    show unle (getC bs).1 < 256
    omega
  obtain ⟨h1, h2, -⟩ := loopP_facts bs hb (getD bs) (getD_at bs) (getN bs)
  exact ⟨Nat.le_trans (takeP_few _ _ _) hb, by show (loopP bs (getN bs) ([], getD bs)).1.length ≤ 1000; omega, h2, blockP_lt hlt _ _⟩

/-- where Get stands -/
structure GtS (w wr : World) (bv dv fv : Value) (bs ds : List Nat) (l : List FxV) (s : Pl) : Prop where
  fr : Fr no w wr
  mod : wr.heap[w.heap.size]? = some (.cells #[.slice none 0 0, .slice none 0 0] 25 (0, 0))
  fault : wr.heap[w.heap.size + 1]? = some (.cells #[.int .i64 0, .int .i64 0] 38 (0, 0))
  pl : PlAt wr (w.heap.size + 2) bv bs s
  rd : wr.heap[w.heap.size + 3]? = some (.cells #[.pointer (some ⟨w.heap.size + 2, 0, none⟩), dv, fv] 68 (0, 0))
  data : wr.ownsRow w.heap.size 5 1 dv ds.length (u8s ds)
  nu : Nums .u8 wr dv
  fns : FnsOwn wr w.heap.size fv l
section
variable {wr wr' : World} {bv dv fv : Value} {bs ds : List Nat} {l : List FxV} {s s' : Pl}
theorem GtS.to (h : GtS w wr bv dv fv bs ds l s) (r : Fr no wr wr') : GtS w wr' bv dv fv bs ds l s :=
  ⟨h.fr.trans r, r.heap h.mod (by simp), r.heap h.fault (by simp), h.pl.fn r, r.heap h.rd (by simp), owns_fr h.data r (by simp), h.nu.fr r (fun g hg => (h.data.lt g hg).2), h.fns.fn r⟩
theorem GtS.pb (h : GtS w wr bv dv fv bs ds l s) (r : Fr (only [w.heap.size + 2]) wr wr') (hp : PlAt wr' (w.heap.size + 2) bv bs s') : GtS w wr' bv dv fv bs ds l s' :=
  ⟨h.fr.trans' r (fun k hk _ => by simp at hk; omega), r.heap h.mod (by simp), r.heap h.fault (by simp), hp, r.heap h.rd (by simp), owns_fr h.data r (fun k hk e => by simp at e; subst e; exact row_block_ne h.data h.pl.obj (by decide) hk),
    h.nu.frx r (fun g hg => (h.data.lt g hg).2) (fun k hk e => by simp at e; subst e; exact row_block_ne h.data h.pl.obj (by decide) hk), h.fns.odd r (fun k hk => .inr (by simp at hk; subst hk; exact ⟨_, _, h.pl.obj, by decide⟩))⟩
/-- the many's cell -/
theorem GtS.nb (h : GtS w wr bv dv fv bs ds l s) {nb : Nat} (hnb : wr.heap.size ≤ nb ∨ (w.heap.size + 3 < nb ∧ ∃ cs, wr.heap[nb]? = some (.cells cs 3 (0, 0)) ∧ l = [])) (r : Fr (only [w.heap.size + 2, nb]) wr wr') (hp : PlAt wr' (w.heap.size + 2) bv bs s') (hf : fv = .slice none 0 0) (hl : l = []) : GtS w wr' bv dv fv bs ds l s' := by
  have hsz : w.heap.size + 3 < nb := by
    rcases hnb with h1 | h1
    · have := (Array.getElem?_eq_some_iff.1 h.rd).1; omega
    · exact h1.1
  have hd : ∀ k, dv.ownBlock = some k → ¬ only [w.heap.size + 2, nb] k := fun k hk e => by
    simp at e
    rcases e with e | e
    · subst e; exact row_block_ne h.data h.pl.obj (by decide) hk
    · subst e
      rcases hnb with h1 | ⟨_, cs, h1, _⟩
      · have := (h.data.lt _ hk).2; omega
      · exact row_block_ne h.data h1 (by decide) hk
  refine ⟨h.fr.trans' r (fun k hk _ => by simp at hk; omega), r.heap h.mod (by simp; omega), r.heap h.fault (by simp; omega), hp, r.heap h.rd (by simp; omega), owns_fr h.data r hd, h.nu.frx r (fun g hg => (h.data.lt g hg).2) hd, ?_⟩
  subst hf
  subst hl
  exact ⟨World.ownsRow_nil _ _ _ _, fun p hp => (by cases hp)⟩
end

end Go.Proofs.YtdngflhfhmnipaaGreat

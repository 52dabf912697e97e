/- law10's helpers: long, six, sameLists, sameBools, has. -/
import Derived.Test.YtofahdjnejodjaaGreatFg
set_option linter.unusedSimpArgs false
set_option linter.unusedVariables false
set_option linter.unusedSectionVars false
set_option linter.unnecessarySimpa false
namespace Go.Proofs.YtofahdjnejodjaaGreat
open Go.RowKit Go.Flow

attribute [local go_sem] Program.isFuncB Program.isSliceB

variable {w w' w'' w0 : World}

/-! ### the chapter's code -/
def lit (o N : Int) : Ix := ⟨o, 0, 0, 0, N, []⟩
def litCells (is : List Ix) : List Value := is.flatMap fun i => i.cells (.slice none 0 0)
theorem litCells_at : ∀ (is : List Ix) (k : Nat) (hk : k < is.length) (j : Nat), j < 6 → (litCells is)[k * 6 + j]? = (is[k].cells (.slice none 0 0))[j]?
  | [], k, hk, _, _ => by simp at hk
  | i :: is, 0, _, j, hj => by
    have : ((litCells (i :: is)))[0 * 6 + j]? = (i.cells (.slice none 0 0) ++ litCells is)[j]? := by simp [litCells]
    rw [this, List.getElem?_append_left (by simp [Ix.cells]; omega)]
    rfl
  | i :: is, k + 1, hk, j, hj => by
    have h6 : (i.cells (.slice none 0 0)).length = 6 := rfl
    have : ((litCells (i :: is)))[(k + 1) * 6 + j]? = (i.cells (.slice none 0 0) ++ litCells is)[(k + 1) * 6 + j]? := by simp [litCells]
    rw [this, List.getElem?_append_right (by rw [h6]; omega), h6, show (k + 1) * 6 + j - 6 = k * 6 + j from by omega]
    exact litCells_at is k (by simpa using hk) j hj
theorem codeIn_lit {b : Nat} {is : List Ix} {t : TypeId} (h : w.heap[b]? = some (.cells (litCells is).toArray t (0, 0))) (ha : ∀ i ∈ is, i.l = []) : CodeIn w (some ⟨b, 0, none⟩) is := by
  intro k hk
  refine ⟨b, 0, .slice none 0 0, rfl, fun j v hj => ?_, ?_⟩
  · have hj6 : j < 6 := by have := (List.getElem?_eq_some_iff.1 hj).1; simpa [Ix.cells] using this
    refine cell_of_heap h ?_
    rw [List.getElem?_toArray, Nat.zero_add, litCells_at is k hk j hj6]
    exact hj
  · rw [ha _ (List.getElem_mem hk)]
    exact .inl ⟨rfl, rfl, rfl⟩
def sixL : List Ix := [lit 1 0, lit 26 14, lit 0 0, lit 25 0, lit 29 0, lit 29 0]
theorem six_lit : ∀ i ∈ sixL, i.l = [] := by intro i hi; simp [sixL, lit] at hi; rcases hi with rfl | rfl | rfl | rfl | rfl <;> rfl
theorem six_few : ∀ i ∈ sixL, i.l.length ≤ 1000 := fun i hi => by rw [six_lit i hi]; simp
theorem six_rng : ∀ i ∈ sixL, rng i.N := by intro i hi; simp [sixL, lit] at hi; rcases hi with rfl | rfl | rfl | rfl | rfl <;> (simp [rng])
theorem six_ck : flowCk sixL = 0 := by kernel_rfl
theorem six_nxs : nxs (fis sixL) = [[1], [2], [3], [0], [], []] := by kernel_rfl
theorem six_blks : (blks (fis sixL)).map (fun b => (b.fr, b.to, b.nx)) = [(0, 2, [1]), (2, 4, [0]), (4, 5, []), (5, 6, [])] := by kernel_rfl
/-! ### are lists the same? -/
theorem nats_inj {a b : List Nat} : nats a = nats b ↔ a = b := by
  unfold nats
  exact ⟨fun h => List.map_inj_right (fun x y h => by omega) |>.1 h, fun h => by rw [h]⟩
theorem NxIn.at_ {sa : Option Addr} {c n : Nat} {ls : List (List Nat)} (h : NxIn w (.slice sa n c) ls) (k : Nat) (hk : k < ls.length) :
    ∃ b o a c', sa = some ⟨b, o, none⟩ ∧ w.cell? ⟨b, o + k, none⟩ = some (.slice a ls[k].length c') ∧ Reads w (.slice a ls[k].length c') 1 ls[k].length (ints (nats ls[k])) := by
  obtain ⟨vs, h1, h2⟩ := h
  have hl := h1.len
  obtain ⟨a', c'', hv⟩ := h1.shape
  cases hv
  have hkv : k < vs.length := by omega
  obtain ⟨b, o, rfl, hc⟩ := h1.at1 (k := k) (u := vs[k]) (List.getElem?_eq_getElem hkv)
  have hr := h2 k _ _ (List.getElem?_eq_getElem hkv) (List.getElem?_eq_getElem hk)
  obtain ⟨ra, rc, he⟩ := hr.shape
  rw [he] at hc hr
  exact ⟨b, o, ra, rc, rfl, hc, hr⟩
theorem NxIn.shape {u : Value} {ls : List (List Nat)} (h : NxIn w u ls) : ∃ a c, u = .slice a ls.length c := by
  obtain ⟨vs, h1, h2⟩ := h
  exact h1.shape

end Go.Proofs.YtofahdjnejodjaaGreat

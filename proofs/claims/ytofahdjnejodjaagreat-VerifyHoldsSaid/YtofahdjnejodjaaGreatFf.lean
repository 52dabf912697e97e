/- flow.Blocks. -/
import Derived.Test.YtofahdjnejodjaaGreatFe
set_option linter.unusedSimpArgs false
set_option linter.unusedVariables false
set_option linter.unusedSectionVars false
set_option linter.unnecessarySimpa false
namespace Go.Proofs.YtofahdjnejodjaaGreat
open Go.RowKit Go.Flow

attribute [local go_sem] Program.isFuncB Program.isSliceB

variable {w w' w'' w0 : World}

/-- blocks in a row, three cells each -/
def bCells : List Bk → List Value → List Value
  | b :: bs, v :: vs => .int .i64 b.fr :: .int .i64 b.to :: v :: bCells bs vs
  | _, _ => []
theorem bCells_snoc : ∀ (bs : List Bk) (vs : List Value) (b : Bk) (v : Value), vs.length = bs.length → bCells (bs ++ [b]) (vs ++ [v]) = bCells bs vs ++ [.int .i64 b.fr, .int .i64 b.to, v]
  | [], [], b, v, _ => rfl
  | [], _ :: _, b, v, h => by simp at h
  | _ :: _, [], b, v, h => by simp at h
  | x :: bs, y :: vs, b, v, h => by
    have := bCells_snoc bs vs b v (by simpa using h)
    simp [bCells, this]
theorem bCells_len : ∀ (bs : List Bk) (vs : List Value), vs.length = bs.length → (bCells bs vs).length = bs.length * 3
  | [], [], _ => rfl
  | [], _ :: _, h => by simp at h
  | _ :: _, [], h => by simp at h
  | x :: bs, y :: vs, h => by
    have := bCells_len bs vs (by simpa using h)
    simp [bCells, this]; omega
theorem bCells_at : ∀ (bs : List Bk) (vs : List Value) (k : Nat) (b : Bk) (v : Value), bs[k]? = some b → vs[k]? = some v → (bCells bs vs)[k * 3]? = some (.int .i64 b.fr) ∧ (bCells bs vs)[k * 3 + 1]? = some (.int .i64 b.to) ∧ (bCells bs vs)[k * 3 + 2]? = some v
  | [], _, k, b, v, h, _ => by simp at h
  | _ :: _, [], k, b, v, _, h => by simp at h
  | x :: bs, y :: vs, 0, b, v, h1, h2 => by simp at h1 h2; subst h1; subst h2; exact ⟨rfl, rfl, rfl⟩
  | x :: bs, y :: vs, k + 1, b, v, h1, h2 => by
    have := bCells_at bs vs k b v (by simpa using h1) (by simpa using h2)
    rw [show (k + 1) * 3 = k * 3 + 1 + 1 + 1 from by omega]
    simp only [bCells, List.getElem?_cons_succ]
    exact this

theorem cells3 {b : Nat} {a0 a1 a2 : Value} {t : TypeId} (h : w.heap[b]? = some (.cells #[a0, a1, a2] t (0, 0))) : w.cell? ⟨b, 0, none⟩ = some a0 ∧ w.cell? ⟨b, 1, none⟩ = some a1 ∧ w.cell? ⟨b, 2, none⟩ = some a2 :=
  ⟨cell_of_heap h rfl, cell_of_heap h rfl, cell_of_heap h rfl⟩
theorem reads_3 (w : World) (a0 a1 a2 : Value) (e : TypeId) : Reads (w.alloc (.cells #[a0, a1, a2] e)) (.slice (some ⟨w.heap.size, 0, none⟩) 1 1) 3 1 [a0, a1, a2] := by
  refine .inr ⟨_, 1, rfl, Nat.le_refl _, by unfold maxLen; omega, rfl, fun j u hu => ?_⟩
  rw [Addr.add_lit]
  refine cell_of_heap (heap_new w _) ?_
  rw [Nat.zero_add]
  simpa using hu
theorem three_one (a b : Int) (xa : Option Addr) (n c : Nat) : ∀ v ∈ [Value.int .i64 a, .int .i64 b, .slice xa n c], v.oneCell' = true := by
  intro v hv
  simp only [List.mem_cons, List.not_mem_nil, or_false] at hv
  rcases hv with rfl | rfl | rfl <;> rfl
def zeroBk : Array Value := #[.int .i64 0, .int .i64 0, .slice none 0 0]
theorem countP_nats (h : List Nat) (x : Nat) : ((nats h).take (nats h).length).countP (fun y => decide (y < (x : Int))) = idx h x := by
  rw [List.take_length, idx_int]
theorem nats_rising {l : List Nat} (h : l.Pairwise (· < ·)) : ((nats l).take l.length).Pairwise (· ≤ ·) := by
  rw [← nats_len, List.take_length]
  exact (nats_sorted h).imp (fun h => by omega)
-- WALK
theorem blks_len (l : List Fi) : (blks l).length = (heads l).length := by simp [blks]
theorem blks_next (l : List Fi) (b : Nat) (hb : b < (heads l).length) : (blks l).take (b + 1) = (blks l).take b ++ [⟨(heads l)[b], endOf l b, bnx l (endOf l b)⟩] := by
  rw [List.take_succ_eq_append_getElem (by rw [blks_len]; exact hb)]
  simp [blks, hb]
theorem bnx_sort {l : List Fi} (F : Flows l) {b : Nat} (hb : b < (heads l).length) : sortI (nats (bnx l (endOf l b))) = nats (bnx l (endOf l b)) := sortI_nats (bnx_sorted F hb) (fun _ => Iff.rfl)
theorem nxs_len (is : List Ix) : (nxs (fis is)).length = is.length := by simp [nxs, fis_len]
theorem nxs_at (is : List Ix) (k : Nat) (hk : k < is.length) : (nxs (fis is))[k]? = some (nx (fis is) k) := by simp [nxs, fis_len, hk]
theorem heads_len (is : List Ix) : (heads (fis is)).length ≤ is.length := by
  unfold heads headsTo
  refine Nat.le_trans (List.length_filter_le _ _) ?_
  rw [List.length_range, fis_len]
  exact Nat.le_refl _

theorem ints_at {l : List Nat} {k x : Nat} (h : l[k]? = some x) : (ints (nats l))[k]? = some (.int .i64 x) := by simp [ints, nats, h]
end Go.Proofs.YtofahdjnejodjaaGreat

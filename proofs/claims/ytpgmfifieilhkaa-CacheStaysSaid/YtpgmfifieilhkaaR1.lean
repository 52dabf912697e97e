import Derived.Test.YtpgmfifieilhkaaC7
namespace Go.Proofs.Ytpgmfifieilhkaa
open Go.RowKit

attribute [local go_sem] Program.isFuncB Program.isSliceB

variable {w w' w'' : World} {words : Nat} {P P' P'' : List (Nat × List Nat)}

/-! ### the document's cache (twinshaftref20) -/
structure RS where
  b : Nat
  wv : Value
  lv : Value

/-- the cells of the document's rows -/
def rows3 : Nat → List (Nat × List Nat) → List Value
  | _, [] => []
  | o, (f, ws) :: P => .int .i64 f :: .int .i64 o :: .int .i64 ws.length :: rows3 (o + ws.length) P

theorem rows3_len : ∀ (P : List (Nat × List Nat)) (o : Nat), (rows3 o P).length = P.length * 3
  | [], _ => rfl
  | (f, ws) :: P, o => by simp [rows3, rows3_len P]; omega

theorem rows3_at : ∀ (P : List (Nat × List Nat)) (o i : Nat) (hi : i < P.length),
    (rows3 o P)[i * 3]? = some (.int .i64 P[i].1) ∧ (rows3 o P)[i * 3 + 1]? = some (.int .i64 ((o + fromOf P i : Nat) : Int)) ∧ (rows3 o P)[i * 3 + 2]? = some (.int .i64 P[i].2.length)
  | (f, ws) :: P, o, 0, _ => by simp [rows3, fromOf, flat]
  | (f, ws) :: P, o, i + 1, hi => by
    have h := rows3_at P (o + ws.length) i (by simpa using hi)
    have e : fromOf ((f, ws) :: P) (i + 1) = ws.length + fromOf P i := by simp [fromOf, flat]
    have e1 : (i + 1) * 3 = i * 3 + 1 + 1 + 1 := by omega
    have e2 : (i + 1) * 3 + 1 = i * 3 + 1 + 1 + 1 + 1 := by omega
    have e3 : (i + 1) * 3 + 2 = i * 3 + 2 + 1 + 1 + 1 := by omega
    rw [e, e2, e3, e1]
    simp only [rows3, List.getElem?_cons_succ, List.getElem_cons_succ]
    rw [← Nat.add_assoc]
    exact h

def rfoot (r : RS) (k : Nat) : Prop := k = r.b ∨ r.wv.ownBlock = some k ∨ r.lv.ownBlock = some k

structure RefAt (w : World) (words : Nat) (P : List (Nat × List Nat)) (r : RS) : Prop where
  obj : w.heap[r.b]? = some (.cells #[.int .i64 words, r.wv, r.lv] 80 (0, 0))
  wds : w.ownsRow 0 52 1 r.wv (flat P).length (u32s (flat P))
  rows : w.ownsRow 0 82 3 r.lv P.length (rows3 0 P)
  ok : POk words P

theorem RefAt.lt {r : RS} (h : RefAt w words P r) : ∀ k, rfoot r k → k < w.heap.size := by
  rintro k (rfl | hk | hk)
  · exact (Array.getElem?_eq_some_iff.1 h.obj).1
  · exact owns_lt h.wds k hk
  · exact owns_lt h.rows k hk

theorem ref_address (w : World) (n : Nat) (hn : n ≤ 1000000) :
    Calls Try.prog 29 #[.int .i64 n] w fun e w' => e = .returned (.int .u64 (adr n)) ∧ w = w' := by
  go_enter Try.func29, Try.ntmps29
  go_wp2_with fail
  go_ret
  exact ⟨by rw [show ((adr n : Nat) : Int) = 4294967296 + 4 * n from by unfold adr; omega]; rfl, rfl⟩

theorem ref_new_no (w : World) (t : Int) (ht : t < 0 ∨ 65536 < t) :
    Calls Try.prog 18 #[.int .i64 t] w fun e w' => e = .returned (.tuple #[.pointer none, .int .i64 2]) ∧ w = w' := by
  by_cases h : t < 0
  · go_enter Try.func18, Try.ntmps18
    go_wp2_with fail
    go_ret2
    exact ⟨rfl, rfl⟩
  · have h2 : 65536 < t := by omega
    clear ht
    go_enter Try.func18, Try.ntmps18
    go_wp2_with fail
    go_ret2
    exact ⟨rfl, rfl⟩

theorem ref_new_yes (w : World) (words : Nat) (hw : words ≤ 65536) :
    Calls Try.prog 18 #[.int .i64 words] w fun e w' => ∃ r, e = .returned (.tuple #[.pointer (some ⟨r.b, 0, none⟩), .int .i64 0]) ∧ RefAt w' words [] r ∧ Fr no w w' ∧ ∀ k, rfoot r k → w.heap.size ≤ k := by
  go_enter Try.func18, Try.ntmps18
  go_wp2_with fail
  go_ret2
  refine ⟨⟨w.heap.size, .slice none 0 0, .slice none 0 0⟩, rfl, ⟨heap_new _ _, ⟨rfl, .inl ⟨rfl, rfl⟩⟩, ⟨rfl, .inl ⟨rfl, rfl⟩⟩, ⟨by simp, by simp, by simp [flat], hw⟩⟩, (Fr.refl no w).alloc _, ?_⟩
  intro k hk
  rcases hk with rfl | hk | hk
  · exact Nat.le_refl _
  · cases hk
  · cases hk

theorem ref_next {r : RS} (h : RefAt w words P r) :
    Calls Try.prog 31 #[.pointer (some ⟨r.b, 0, none⟩)] w fun e w' => e = .returned (.int .u64 (adr (flat P).length)) ∧ w = w' := by
  obtain ⟨ca, cc, hcv⟩ := owns_shape h.wds
  have e1 : w.cell? ⟨r.b, 1, none⟩ = some (.slice ca (flat P).length cc) := by rw [← hcv]; exact cell_of_heap h.obj rfl
  have hlen : (flat P).length ≤ 65536 := Nat.le_trans h.ok.room h.ok.few
  clear h hcv
  go_enter Try.func31, Try.ntmps31
  go_wp2_with fail
  refine (ref_address _ _ (by omega)).mono ?_
  rintro e w' ⟨rfl, rfl⟩
  go_wp2_with fail
  go_ret
  exact ⟨rfl, rfl⟩

end Go.Proofs.Ytpgmfifieilhkaa

import Derived.Test.YtfiabeibiehlaaaW6
namespace Go.Proofs.Ytfiabeibiehlaaa
open Go.RowKit

attribute [local go_sem] Program.isFuncB Program.isSliceB

theorem Try.info3 : (Try.prog.info? 3).map (fun i => (i.zero, i.size, i.bytes)) = some (some (.int .i64 0), 1, 8) := by kernel_rfl

structure RefAt (w : World) (scr : List Bool) (thr : Nat) (L : List Nat) (br B : Nat) (sv lv : Value) : Prop where
  blk : w.heap[br]? = some (.cells #[sv, .int .i64 thr, lv] 35 (0, 0))
  list : BoolsAt w sv scr
  own : w.ownsRow B 3 1 lv L.length (L.map fun (n : Nat) => .int .i64 n)
  lt : br < B
  sep : ∀ k, sv.ownBlock = some k → k < B ∧ k ≠ br

theorem RefAt.fr {S : Nat → Prop} {w w' : World} {scr : List Bool} {thr : Nat} {L : List Nat} {br B : Nat} {sv lv : Value} (h : RefAt w scr thr L br B sv lv) (hf : Fr S w w')
    (h1 : ∀ k, S k → k < B ∧ k ≠ br) (h4 : ∀ k, sv.ownBlock = some k → ¬ S k) : RefAt w' scr thr L br B sv lv :=
  ⟨hf.heap h.blk (fun m => (h1 _ m).2 rfl), h.list.fr hf h4, owns_fr h.own hf (fun k hk m => by have := h1 k m; have := h.own.lt k hk; omega), h.lt, h.sep⟩

set_option maxHeartbeats 400000 in
theorem refnew_no (w : World) (v : Value) (t : Int) (ht : t < 0 ∨ 2147483647 < t) :
    Calls Try.prog 10 #[v, .int .i64 t] w fun e w' => e = .returned (.tuple #[.pointer none, .int .i64 2]) ∧ w = w' := by
  by_cases h : t < 0
  · go_enter Try.func10, Try.ntmps10
    go_wp2_with fail
    go_ret2
    exact ⟨rfl, rfl⟩
  · have h2 : 2147483647 < t := by omega
    clear ht
    go_enter Try.func10, Try.ntmps10
    go_wp2_with fail
    go_ret2
    exact ⟨rfl, rfl⟩

set_option maxHeartbeats 400000 in
theorem refnew_yes (w : World) (v : Value) (xs : List Bool) (h : Reads w v 1 xs.length (xs.map .bool)) (hb : xs.length ≤ 140737488355328) (t : Nat) (ht : t ≤ 2147483647) :
    Calls Try.prog 10 #[v, .int .i64 t] w fun e w' => ∃ br sv, e = .returned (.tuple #[.pointer (some ⟨br, 0, none⟩), .int .i64 0]) ∧
      RefAt w' xs t [] br w'.heap.size sv (.slice none 0 0) ∧ Fr no w w' ∧ w.heap.size ≤ br ∧ ∀ k, sv.ownBlock = some k → w.heap.size ≤ k := by
  have HR := Lib.hid (h.fr (((Fr.refl no w).alloc (.cells #[] 4))) (by simp))
  obtain ⟨va, vc, rfl⟩ := h.shape
  clear h
  have HO := Lib.hid (owns_new w 4 1)
  go_enter Try.func10, Try.ntmps10
  go_wp2_with (at_builtin; refine wpList_append_any rfl _ _ 22 rfl w.heap.size 4 (.bool false) 1 1 Try.underlying22 Try.info4 rfl (by decide) _ 0 [] rfl HO.out xs.length _ HR.out bools_one (by unfold maxLen; omega) (by omega) (by simp) ?_; intro a' c' w1 hown' hgrow)
  go_ret2
  simp only [Nat.zero_add, List.nil_append] at hown'
  obtain ⟨q1, q2⟩ := bools_of_owns hown'
  have r1 : Fr no w w1 := ((Fr.refl no w).alloc _).grown hgrow (fun k hk => .inr (Nat.le_of_eq (Option.some.inj hk)))
  have hsz := r1.size
  refine ⟨w1.heap.size, .slice a' xs.length c', rfl, ⟨?_, ?_, ?_, ?_, ?_⟩, r1.alloc _, hsz, ?_⟩
  · exact heap_new _ _
  · exact q1.fr ((Fr.refl no w1).alloc _) (by simp)
  · exact World.ownsRow_nil _ _ _ _
  · simp
  · intro k hk; have := q2 k hk; simp; omega
  · intro k hk; exact (q2 k hk).1


def cntOf (f : Int) (L : List Nat) : Nat := L.countP fun (x : Nat) => decide ((x : Int) = f)
theorem cntOf_le (f : Int) (L : List Nat) : cntOf f L ≤ L.length := List.countP_le_length
theorem cntOf_yes (f : Int) (L : List Nat) (x : Nat) (h : (x : Int) = f) : cntOf f (L ++ [x]) = cntOf f L + 1 := by
  simp [cntOf, List.countP_append, h]
theorem cntOf_no (f : Int) (L : List Nat) (x : Nat) (h : ¬ (x : Int) = f) : cntOf f (L ++ [x]) = cntOf f L := by
  simp [cntOf, List.countP_append, h]
theorem cntOf_count (f : Nat) (L : List Nat) : cntOf f L = L.count f := by
  unfold cntOf List.count
  congr 1
  funext x
  simp [BEq.beq, Int.natCast_inj]

set_option maxHeartbeats 400000 in
theorem refcount_any {w : World} {scr : List Bool} {thr : Nat} {L : List Nat} {br B : Nat} {sv lv : Value} (h : RefAt w scr thr L br B sv lv) (hL : L.length < 1000000) (f : Int) :
    Calls Try.prog 15 #[.pointer (some ⟨br, 0, none⟩), .int .i64 f] w fun e w' => e = .returned (.int .i64 (cntOf f L)) ∧ w = w' := by
  have c2 : w.cell? ⟨br, 2, none⟩ = some lv := cell_of_heap h.blk rfl
  have hrd := owns_reads h.own
  rcases hrd with ⟨rfl, h0, -⟩ | ⟨a, cap, rfl, h1, h2, h3, h4⟩
  · have h0' := List.length_eq_zero_iff.1 h0
    subst h0'
    clear h h0
    go_enter Try.func15, Try.ntmps15
    go_wp2
    refine wp_loop_once ?_
    go_wp2
    go_ret
    exact ⟨rfl, rfl⟩
  · have hsp : ∃ b o, a = ⟨b, o, none⟩ := by
      rcases h.own.2 with ⟨h, _⟩ | ⟨g, cap, cur, hv, _⟩
      · cases h
      · cases hv; exact ⟨_, _, rfl⟩
    obtain ⟨b, o, rfl⟩ := hsp
    have hc : ∀ j (hj : j < L.length), w.cell? ⟨b, o + j, none⟩ = some (.int .i64 L[j]) := fun j hj => by
      have := h4 j (.int .i64 L[j]) (by simp [hj])
      rwa [Addr.add_lit] at this
    have HC := Lib.hid hc
    clear hc h4 h3 h2 h1 h
    go_enter Try.func15, Try.ntmps15
    go_wp2
    go_loop [5, 6] (fun n i => ∃ k : Nat, k ≤ L.length ∧ i = .int .i64 k ∧ n = .int .i64 (cntOf f (L.take k))) (fun _ i => L.length - (intOf i).toNat)
    case atStart => exact ⟨0, Nat.zero_le _, rfl, rfl⟩
    case round =>
      obtain ⟨k, hk, rfl, rfl⟩ := hrel
      have hb : cntOf f (L.take k) ≤ k := Nat.le_trans (cntOf_le _ _) (by simp; omega)
      by_cases hlt : k < L.length
      · have hcell := HC.out k hlt
        have HS := Lib.hid (List.take_succ_eq_append_getElem hlt)
        by_cases he : (L[k] : Int) = f
        · have he' : ((L[k] : Int) == f) = true := by simpa using he
          have HG := Lib.hid (cntOf_yes f (L.take k) L[k] he)
          clear he
          go_wp2
          go_round
          case rel => exact ⟨k + 1, by omega, by go_num, by rw [HS.out, HG.out]; go_num⟩
          case measure => simp [intOf]; omega
        · have he' : ((L[k] : Int) == f) = false := by simpa using he
          have HG := Lib.hid (cntOf_no f (L.take k) L[k] he)
          clear he
          go_wp2
          go_round
          case rel => exact ⟨k + 1, by omega, by go_num, by rw [HS.out, HG.out]⟩
          case measure => simp [intOf]; omega
      · go_wp2
        go_ret
        exact ⟨by rw [List.take_of_length_le (by omega)]; rfl, rfl⟩

end Go.Proofs.Ytfiabeibiehlaaa

import Derived.Test.YtfiabeibiehlaaaW3
import Derived.Laws.EntriesVeiled
namespace Go.Proofs.Ytfiabeibiehlaaa
open Go.RowKit

attribute [local go_sem] Program.isFuncB Program.isSliceB

theorem Try.info4 : (Try.prog.info? 4).map (fun i => (i.zero, i.size, i.bytes)) = some (some (.bool false), 1, 1) := by kernel_rfl

theorem bools_of_owns {w : World} {B : Nat} {v : Value} {xs : List Bool} (h : w.ownsRow B 4 1 v xs.length (xs.map .bool)) :
    BoolsAt w v xs ∧ ∀ k, v.ownBlock = some k → B ≤ k ∧ k < w.heap.size := by
  refine ⟨?_, h.lt⟩
  rcases h.2 with ⟨rfl, h0⟩ | ⟨g, cap, cur, rfl, hb, hg, h1, h2, h3, h4⟩
  · exact .inl ⟨rfl, List.length_eq_zero_iff.1 h0⟩
  · refine .inr ⟨g, 0, cap, rfl, h1, by simpa [maxLen] using h2, fun i hi => ?_⟩
    have := (h.cellAt i (by omega))
    rw [Nat.zero_add, this]
    simp [hi]

theorem BoolsAt.reads {w : World} {v : Value} {xs : List Bool} (h : BoolsAt w v xs) : Reads w v 1 xs.length (xs.map .bool) := by
  rcases h with ⟨rfl, rfl⟩ | ⟨b, o, cap, rfl, h1, h2, h3⟩
  · exact .inl ⟨rfl, rfl, rfl⟩
  · refine .inr ⟨_, cap, rfl, h1, by simpa [maxLen] using h2, by simp, fun j u hu => ?_⟩
    have hj : j < xs.length := by
      rcases Nat.lt_or_ge j xs.length with h | h
      · exact h
      · rw [List.getElem?_eq_none (by simpa using h)] at hu; cases hu
    have := h3 j hj
    rw [Addr.add_lit, this]
    simp [hj] at hu; simp [hu]

theorem bools_one {xs : List Bool} : ∀ u ∈ xs.map Value.bool, u.oneCell' = true := by
  intro u hu; simp only [List.mem_map] at hu; obtain ⟨x, _, rfl⟩ := hu; rfl

set_option maxHeartbeats 400000 in
theorem clone_any (w : World) (v : Value) (xs : List Bool) (h : Reads w v 1 xs.length (xs.map .bool)) (hb : xs.length ≤ 140737488355328) :
    Calls Try.prog 25 #[v] w fun e w' => ∃ v', e = .returned v' ∧ BoolsAt w' v' xs ∧ Fr no w w' ∧ ∀ k, v'.ownBlock = some k → w.heap.size ≤ k ∧ k < w'.heap.size := by
  have HR := Lib.hid (h.fr (((Fr.refl no w).alloc (.cells #[] 4))) (by simp))
  have HO := Lib.hid (owns_new w 4 1)
  rcases h with ⟨rfl, h1, h2⟩ | ⟨a, cap, rfl, h1, h2, h3, h4⟩
  · have hx := List.length_eq_zero_iff.1 h1
    subst hx
    clear h1 h2
    go_enter Try.func25, Try.ntmps25
    go_wp2
    go_ret
    exact ⟨_, rfl, .inl ⟨rfl, rfl⟩, Fr.refl _ _, by simp [Value.ownBlock]⟩
  · clear h3 h4 h2
    go_enter Try.func25, Try.ntmps25
    go_wp2_with (at_builtin; refine wpList_append_any rfl _ _ 22 rfl w.heap.size 4 (.bool false) 1 1 Try.underlying22 Try.info4 rfl (by decide) _ 0 [] rfl HO.out xs.length _ HR.out bools_one (by unfold maxLen; omega) (by omega) (by simp) ?_; intro a' c' w1 hown' hgrow)
    go_ret
    simp only [Nat.zero_add, List.nil_append] at hown'
    obtain ⟨q1, q2⟩ := bools_of_owns hown'
    exact ⟨_, rfl, q1, ((Fr.refl no w).alloc _).grown hgrow (fun k hk => .inr (Nat.le_of_eq (Option.some.inj hk))), q2⟩

def z48 : Array Value := #[.slice none 0 0, .int .i64 0] ++ Array.replicate 65 (.int .i64 0) ++ #[.nilFunc]
theorem Try.zero48 (w : World) : (zeroValue 48).run Try.prog w = .ok (.agg z48) w := by kernel_rfl

theorem z48_cnt : ∀ i, i < 64 → z48[2 + i]? = some (.int .i64 0) := by
  intro i hi
  unfold z48
  rw [Array.getElem?_append_left (by simp; omega), Array.getElem?_append_right (by simp), Array.getElem?_replicate, if_pos (by simp; omega)]

theorem pol_fresh (w1 : World) (sa : Option Addr) (sn sc : Nat) {xs : List Bool} {o1 o2 : Obj} (t a ba : Nat)
    (h1 : BoolsAt ((w1.alloc o1).alloc o2) (.slice sa sn sc) xs) (hk : ∀ k, (Value.slice sa sn sc).ownBlock = some k → ba < k ∧ k < w1.heap.size) (hba : w1.heap[ba]? = some (.cells #[.int .i64 a] 3 (0, 0)))
    (e1 : o1 = .cells (((z48.setIfInBounds 0 (.slice sa sn sc)).setIfInBounds 1 (.int .i64 t)).setIfInBounds 67 (saysOf ba (w1.heap.size + 1))) 48 := by rfl)
    (e2 : o2 = .cells #[.pointer (some ⟨w1.heap.size, 0, none⟩)] 25 := by rfl) :
    PolAt ((w1.alloc o1).alloc o2) ⟨xs, t, a, 0, fun _ => 0⟩ w1.heap.size ba (w1.heap.size + 1) (.slice sa sn sc) := by
  have hb := heap_new2 w1 o1 o2
  have hs := heap_new2' w1 o1 o2
  have h0 : z48.size = 68 := by kernel_rfl
  have h66 : z48[66]? = some (.int .i64 0) := by kernel_rfl
  have hlt := (Array.getElem?_eq_some_iff.1 hba).1
  have hba' : ((w1.alloc o1).alloc o2).heap[ba]? = some (.cells #[.int .i64 a] 3 (0, 0)) := (((Fr.refl no w1).alloc o1).alloc o2).heap hba (by simp)
  subst e1; subst e2
  refine ⟨⟨_, hb⟩, cell_of_heap hb (by simp [h0]), cell_of_heap hb (by simp [h0]), fun i hi => cell_of_heap hb ?_, cell_of_heap hb (by simp [h66]), cell_of_heap hb (by simp [h0]), hba', hs, h1, fun k hk' => ⟨?_, ?_⟩⟩
  · have := z48_cnt i hi
    rw [Array.getElem?_setIfInBounds_ne (by omega), Array.getElem?_setIfInBounds_ne (by omega), Array.getElem?_setIfInBounds_ne (by omega), this]
    rfl
  · have := hk k hk'; omega
  · have := hk k hk'; omega

set_option maxHeartbeats 400000 in
theorem made_any (w : World) (v : Value) (xs : List Bool) (h : Reads w v 1 xs.length (xs.map .bool)) (hb : xs.length ≤ 140737488355328) (a t : Nat) :
    Calls Try.prog 19 #[v, .int .i64 a, .int .i64 t] w fun e w' => ∃ b ba bp sv, e = .returned (.pointer (some ⟨b, 0, none⟩)) ∧
      PolAt w' ⟨xs, t, a, 0, fun _ => 0⟩ b ba bp sv ∧ Fr no w w' ∧ w.heap.size ≤ b ∧ w.heap.size ≤ ba ∧ w.heap.size ≤ bp ∧ ∀ k, sv.ownBlock = some k → w.heap.size ≤ k ∧ k < w'.heap.size := by
  have hfr : Fr no w (w.alloc (.cells #[.int .i64 a] 3)) := (Fr.refl _ _).alloc _
  have h' := h.fr hfr (by simp)
  go_enter Try.func19, Try.ntmps19
  go_wp2_with fail
  refine (clone_any _ v xs h' hb).mono ?_
  rintro e w1 ⟨v', rfl, h1, r1, hk'⟩
  have hsh : ∃ a n c, v' = .slice a n c := by
    rcases h1 with ⟨rfl, _⟩ | ⟨b, o, cap, rfl, _⟩
    · exact ⟨_, _, _, rfl⟩
    · exact ⟨_, _, _, rfl⟩
  obtain ⟨sa, sn, sc, rfl⟩ := hsh
  have hz := Try.zero48
  have h67 : z48[67]? = some .nilFunc := by kernel_rfl
  go_wp2_with fail
  go_ret
  refine ⟨w1.heap.size, w.heap.size, w1.heap.size + 1, .slice sa sn sc, rfl, ?_, ?_, ?_, ?_, ?_, ?_⟩
  · exact pol_fresh w1 sa sn sc t a w.heap.size (BoolsAt.fr h1 (((Fr.refl no w1).alloc _).alloc _) (by simp)) (fun k hk => by have := hk' k hk; simp at this; omega) (r1.heap (heap_new w _) (by simp))
  · exact ((((Fr.refl no w).alloc _).trans r1).alloc _).alloc _
  · have := r1.size; simp at this; omega
  · omega
  · have := r1.size; simp at this; omega
  · intro k hk
    have := hk' k hk
    simp at this; simp; omega

end Go.Proofs.Ytfiabeibiehlaaa

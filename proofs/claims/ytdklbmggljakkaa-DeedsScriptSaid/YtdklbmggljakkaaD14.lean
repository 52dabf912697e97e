import Derived.Test.YtdklbmggljakkaaD13
import Derived.Test.YtdklbmggljakkaaNu
import Derived.Deep.MidRow
set_option linter.unusedSimpArgs false
set_option linter.unusedVariables false
set_option linter.unusedSectionVars false
set_option linter.unnecessarySimpa false
namespace Go.Proofs.Ytdklbmggljakkaa
open Go.RowKit

attribute [local go_sem] Program.isFuncB Program.isSliceB

variable {w w' w'' w0 : World}

/-- bytes that are written over, their spare room too: only their own block turns -/
theorem overbytes_ok (w : World) (B : Nat) (v : Value) (n : Nat) (xs : List Value) (ho : w.ownsRow B 5 1 v n xs) (hn : Nums .u8 w v) :
    Calls Try.prog 13 #[v] w fun e w' => e = .returned (.tuple #[]) ∧ Fr (fun k => v.ownBlock = some k) w w' := by
  rcases ho.2 with ⟨rfl, rfl⟩ | ⟨g, cap, cur, rfl, hb, hg, h1, h2, h3, h4⟩
  · clear ho hn
    go_enter Try.func13, Try.ntmps13
    go_wp2_with fail
    go_loopw [3] (fun x wr => x = .int .i64 0 ∧ wr = w) (fun _ _ => 0)
    case atStart => exact ⟨rfl, rfl⟩
    case round =>
      obtain ⟨rfl, rfl⟩ := hrel
      go_wp2_with fail
      exact ⟨rfl, .tuple #[], by simp [results], rfl, Fr.refl _ _⟩
  · have hc : cap < 9223372036854775808 := by have := h2; unfold maxLen at this; omega
    have hn' : n ≤ cap := h1
    have hz : cur.size = cap := by omega
    have HG0 : Hid (∃ cur : Array Value, w.heap[g]? = some (.cells cur 5 (0, 0)) ∧ cur.size = cap ∧ ∀ x ∈ cur.toList, ∃ q : Int, x = .int .u8 q) := Lib.hid ⟨cur, hg, hz, hn g cur _ _ rfl hg⟩
    clear ho hb hg h1 h2 h3 h4 hz hn
    go_enter Try.func13, Try.ntmps13
    go_wp2_with fail
    go_loopw [3] (fun x wr => ∃ k : Nat, k ≤ cap ∧ x = .int .i64 k ∧ Hid (∃ cur : Array Value, wr.heap[g]? = some (.cells cur 5 (0, 0)) ∧ cur.size = cap ∧ ∀ x ∈ cur.toList, ∃ q : Int, x = .int .u8 q) ∧ Hid (Fr (only [g]) w wr)) (fun x _ => (cap - intOf x).toNat)
    case atStart => exact ⟨0, by omega, rfl, HG0, Lib.hid (Fr.refl _ _)⟩
    case round =>
      obtain ⟨k, hk, rfl, hg, hf⟩ := hrel
      by_cases hkc : k < cap
      · have hkc' : (k : Int) < cap := by omega
        obtain ⟨cur, h1, h2, h3⟩ := hg.out
        obtain ⟨q, hq⟩ := h3 (cur[k]'(by omega)) (by simp)
        have c1 : wr.cell? ⟨g, 0 + k, none⟩ = some (.int .u8 q) := by rw [← hq]; exact cell_of_heap h1 (by rw [Nat.zero_add]; simp)
        rw [Nat.zero_add] at c1
        have f1 : wr.frozen? ⟨g, k, none⟩ = false := frozen_of_heap h1
        have HN := Lib.hid (fun z : Int => (⟨_, heap_setCell (v := .int .u8 z) h1, by simpa using h2, by
          intro x hx
          rw [Array.toList_setIfInBounds] at hx
          rcases List.mem_or_eq_of_mem_set hx with hx | hx
          · exact h3 x hx
          · exact ⟨z, hx⟩⟩ : ∃ cur' : Array Value, (wr.setCell ⟨g, k, none⟩ (.int .u8 z)).heap[g]? = some (.cells cur' 5 (0, 0)) ∧ cur'.size = cap ∧ ∀ x ∈ cur'.toList, ∃ q : Int, x = .int .u8 q))
        have HF := Lib.hid (fun z : Int => hf.out.setCell ⟨g, k, none⟩ (.int .u8 z) (.inl (by simp)))
        clear h1 h2 h3 hq hg hf
        go_wp2_with fail
        go_roundw
        case rel => exact ⟨k + 1, by omega, by go_num, Lib.hid (HN.out _), Lib.hid (HF.out _)⟩
        case measure => first | (simp [intOf]; done) | (simp [intOf]; omega)
      · obtain rfl : k = cap := by omega
        go_wp2_with fail
        exact ⟨rfl, .tuple #[], by simp [results], rfl, hf.out.mono (fun i hi => by simp at hi; simp [Value.ownBlock, hi])⟩



theorem Lent.owned {base : Nat} {v : Value} {bs : List Nat} (h : Lent w base v bs) : ∃ g cap, v = .slice (some ⟨g, 0, none⟩) bs.length (bs.length + 3) ∧ base ≤ g ∧ cap = bs.length + 3 ∧ ∃ cur : Array Value, w.heap[g]? = some (.cells cur 5 (0, 0)) ∧ cap ≤ cur.size ∧ (∀ i (hi : i < cur.size), i < cap → ∃ q : Int, cur[i] = .int .u8 q) := by
  obtain ⟨g, c, h1, h2, h3, cur, h4, h5, h6, h7⟩ := h.row
  refine ⟨g, c, h1, h2, h3, cur, h4, h7, fun i hi hc => ?_⟩
  have e : (cur.toList.take c)[i]? = some cur[i] := by rw [List.getElem?_take_of_lt hc]; simp [hi]
  rw [h5] at e
  have := List.mem_of_getElem? e
  simp only [u8s, List.mem_map] at this
  obtain ⟨q, -, hq⟩ := this
  exact ⟨q, hq.symm⟩

set_option maxHeartbeats 1000000 in
/-- what was lent is written over -/
theorem overlent_ok (w : World) (B : Nat) (v : Value) (bs : List Nat) (h : Lent w B v bs) (hl : bs.length ≤ 100000) :
    Calls Try.prog 13 #[v] w fun e w' => e = .returned (.tuple #[]) ∧ Fr (fun k => v.ownBlock = some k) w w' := by
  obtain ⟨g, cap, rfl, hb, hcap, cur, hg, hz, hq⟩ := h.owned
  have HG0 : Hid (∃ cur : Array Value, w.heap[g]? = some (.cells cur 5 (0, 0)) ∧ cap ≤ cur.size ∧ (∀ i (hi : i < cur.size), i < cap → ∃ q : Int, cur[i] = .int .u8 q)) := Lib.hid ⟨cur, hg, hz, hq⟩
  have hc : cap < 9223372036854775808 := by omega
  have hn' : bs.length ≤ cap := by omega
  rw [← hcap]
  clear hb hg hz hq h hl hcap
  go_enter Try.func13, Try.ntmps13
  go_wp2_with fail
  go_loopw [3] (fun x wr => ∃ k : Nat, k ≤ cap ∧ x = .int .i64 k ∧ Hid (∃ cur : Array Value, wr.heap[g]? = some (.cells cur 5 (0, 0)) ∧ cap ≤ cur.size ∧ (∀ i (hi : i < cur.size), i < cap → ∃ q : Int, cur[i] = .int .u8 q)) ∧ Hid (Fr (only [g]) w wr)) (fun x _ => (cap - intOf x).toNat)
  case atStart => exact ⟨0, by omega, rfl, HG0, Lib.hid (Fr.refl _ _)⟩
  case round =>
    obtain ⟨k, hk, rfl, hg, hf⟩ := hrel
    by_cases hkc : k < cap
    · have hkc' : (k : Int) < cap := by omega
      obtain ⟨cur, h1, h2, h3⟩ := hg.out
      obtain ⟨q, hq⟩ := h3 k (by omega) hkc
      have c1 : wr.cell? ⟨g, 0 + k, none⟩ = some (.int .u8 q) := by rw [← hq]; exact cell_of_heap h1 (by rw [Nat.zero_add]; simp)
      rw [Nat.zero_add] at c1
      have f1 : wr.frozen? ⟨g, k, none⟩ = false := frozen_of_heap h1
      have HN := Lib.hid (fun z : Int => (⟨_, heap_setCell (v := .int .u8 z) h1, by simpa using h2, by
        intro i hi hic
        rw [Array.getElem_setIfInBounds]
        · by_cases hki : k = i
          · rw [if_pos hki]; exact ⟨z, rfl⟩
          · rw [if_neg hki]; exact h3 i (by simpa using hi) hic⟩ : ∃ cur' : Array Value, (wr.setCell ⟨g, k, none⟩ (.int .u8 z)).heap[g]? = some (.cells cur' 5 (0, 0)) ∧ cap ≤ cur'.size ∧ (∀ i (hi : i < cur'.size), i < cap → ∃ q : Int, cur'[i] = .int .u8 q)))
      have HF := Lib.hid (fun z : Int => hf.out.setCell ⟨g, k, none⟩ (.int .u8 z) (.inl (by simp)))
      clear h1 h2 h3 hq hg hf
      go_wp2_with fail
      go_roundw
      case rel => exact ⟨k + 1, by omega, by go_num, Lib.hid (HN.out _), Lib.hid (HF.out _)⟩
      case measure => first | (simp [intOf]; done) | (simp [intOf]; omega)
    · obtain rfl : k = cap := by omega
      go_wp2_with fail
      exact ⟨rfl, .tuple #[], by simp [results], rfl, hf.out.mono (fun i hi => by simp at hi; simp [Value.ownBlock, hi])⟩

set_option maxHeartbeats 1000000 in
/-- deeds that are written over -/
theorem overdeeds_ok (w : World) (B : Nat) (v : Value) (n : Nat) (xs : List Value) (ho : w.ownsRow B 59 2 v n xs) :
    Calls Try.prog 21 #[v] w fun e w' => e = .returned (.tuple #[]) ∧ Fr (fun k => v.ownBlock = some k) w w' := by
  rcases ho.2 with ⟨rfl, rfl⟩ | ⟨g, cap, cur, rfl, hb, hg, h1, h2, h3, h4⟩
  · clear ho
    go_enter Try.func21, Try.ntmps21
    go_wp2_with fail
    go_loopw [3] (fun x wr => x = .int .i64 0 ∧ wr = w) (fun _ _ => 0)
    case atStart => exact ⟨rfl, rfl⟩
    case round =>
      obtain ⟨rfl, rfl⟩ := hrel
      go_wp2_with fail
      exact ⟨rfl, .tuple #[], by simp [results], rfl, Fr.refl _ _⟩
  · have hc : cap < 9223372036854775808 := by have := h2; unfold maxLen at this; omega
    have hn' : n ≤ cap := h1
    have HG0 : Hid (∃ cur : Array Value, w.heap[g]? = some (.cells cur 59 (0, 0)) ∧ cur.size = cap * 2) := Lib.hid ⟨cur, hg, h3⟩
    clear ho hb hg h1 h2 h3 h4
    go_enter Try.func21, Try.ntmps21
    go_wp2_with fail
    go_loopw [3] (fun x wr => ∃ k : Nat, k ≤ cap ∧ x = .int .i64 k ∧ Hid (∃ cur : Array Value, wr.heap[g]? = some (.cells cur 59 (0, 0)) ∧ cur.size = cap * 2) ∧ Hid (Fr (only [g]) w wr)) (fun x _ => (cap - intOf x).toNat)
    case atStart => exact ⟨0, by omega, rfl, HG0, Lib.hid (Fr.refl _ _)⟩
    case round =>
      obtain ⟨k, hk, rfl, hg, hf⟩ := hrel
      by_cases hkc : k < cap
      · have hkc' : (k : Int) < cap := by omega
        obtain ⟨cur, h1, h2⟩ := hg.out
        have HT : Hid (wr.there g (k * 2) 2) := Lib.hid (fun j hj => ⟨by rw [cell_of_heap h1 (show cur[k * 2 + j]? = some (cur[k * 2 + j]'(by omega)) from by simp)]; rfl, frozen_of_heap h1⟩)
        have HN := Lib.hid (⟨_, heap_setCell (o := k * 2 + 1) (v := .int .i64 999) (heap_setCell (o := k * 2) (v := .int .i64 (-7)) h1), by simpa using h2⟩ : ∃ cur' : Array Value, ((wr.setCell ⟨g, k * 2, none⟩ (.int .i64 (-7))).setCell ⟨g, k * 2 + 1, none⟩ (.int .i64 999)).heap[g]? = some (.cells cur' 59 (0, 0)) ∧ cur'.size = cap * 2)
        have HF := Lib.hid ((hf.out.setCell ⟨g, k * 2, none⟩ (.int .i64 (-7)) (.inl (by simp))).setCell ⟨g, k * 2 + 1, none⟩ (.int .i64 999) (.inl (by simp)))
        clear h1 h2 hg hf
        go_wp2_with (refine wpList_store_mid rfl 59 (.tmp 17) (.tmp 16) rfl g (k * 2) #[.int .i64 (-7), .int .i64 999] rfl rfl HT.out (by rw [Try.infoDeed]; rfl) (by simp [Value.oneCell']) ?_; rw [act_put_none])
        go_roundw
        case rel => exact ⟨k + 1, by omega, by go_num, HN, HF⟩
        case measure => first | (simp [intOf]; done) | (simp [intOf]; omega)
      · obtain rfl : k = cap := by omega
        go_wp2_with fail
        exact ⟨rfl, .tuple #[], by simp [results], rfl, hf.out.mono (fun i hi => by simp at hi; simp [Value.ownBlock, hi])⟩

end Go.Proofs.Ytdklbmggljakkaa

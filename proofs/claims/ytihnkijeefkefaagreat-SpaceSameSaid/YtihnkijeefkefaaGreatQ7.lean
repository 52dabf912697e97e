import Derived.Test.YtihnkijeefkefaaGreatQ6
import Derived.Laws.OwnMore
set_option linter.unusedSimpArgs false
set_option linter.unusedVariables false
set_option linter.unusedSectionVars false
set_option linter.unnecessarySimpa false
set_option maxRecDepth 100000
/- The document's memory. -/
namespace Go.Proofs.YtihnkijeefkefaaGreat
open Go.RowKit

attribute [local go_sem] Program.isFuncB Program.isSliceB

variable {w w' w'' w0 : World}

structure RMemAt (w : World) (q g n c : Nat) (bs : List Nat) : Prop where
  obj : w.heap[q]? = some (.cells #[.slice (some ⟨g, 0, none⟩) n c] 167 (0, 0))
  row : w.ownsRow 0 5 1 (.slice (some ⟨g, 0, none⟩) n c) n (u8s bs)
  lt : ∀ x ∈ bs, x < 256
section
variable {q g n c : Nat} {bs : List Nat}
theorem RMemAt.len (h : RMemAt w q g n c bs) : bs.length = n := by have := h.row.1; rw [u8s_len] at this; omega
theorem RMemAt.frx {S : Nat → Prop} (h : RMemAt w q g n c bs) (r : Fr S w w') (h1 : ¬ S q) (h2 : ¬ S g) : RMemAt w' q g n c bs :=
  ⟨r.heap h.obj h1, owns_fr h.row r (fun k hk => by cases hk; exact h2), h.lt⟩
theorem RMemAt.fr (h : RMemAt w q g n c bs) (r : Fr no w w') : RMemAt w' q g n c bs := h.frx r (by simp) (by simp)
theorem RMemAt.reads (h : RMemAt w q g n c bs) : Reads w (.slice (some ⟨g, 0, none⟩) n c) 1 n (u8s bs) := owns_reads h.row
theorem RMemAt.block (h : RMemAt w q g n c bs) : ∃ cur : Array Value, w.heap[g]? = some (.cells cur 5 (0, 0)) ∧ n ≤ cur.size ∧ cur.toList.take n = u8s bs := by
  rcases h.row.2 with ⟨hh, -⟩ | ⟨g', cap, cur, hh, hb, hg, h1, h2, h3, h4⟩
  · cases hh
  · injection hh with e1 e2 e3
    injection e1 with e1
    injection e1 with e1 e4 e5
    subst e1
    exact ⟨cur, hg, by omega, by simpa using h4⟩
theorem RMemAt.ne (h : RMemAt w q g n c bs) : q ≠ g := by
  obtain ⟨cur, hg, -⟩ := h.block
  exact block_ne h.obj hg (by decide)

theorem RMemAt.cell (h : RMemAt w q g n c bs) {i : Nat} (hi : i < bs.length) : w.cell? ⟨g, i, none⟩ = some (.int .u8 (bs[i] : Nat)) := by
  have := h.len
  rw [h.row.cellAt i (by omega)]
  simp [u8s, hi]
theorem RMemAt.set (h : RMemAt w q g n c bs) (i b : Nat) (hb : b < 256) : RMemAt (w.setCell ⟨g, i, none⟩ (.int .u8 (b : Int))) q g n c (bs.set i b) ∧ Fr (only [g]) w (w.setCell ⟨g, i, none⟩ (.int .u8 (b : Int))) := by
  have r := (Fr.refl (only [g]) w).setCell ⟨g, i, none⟩ (.int .u8 (b : Int)) (.inl (by simp))
  refine ⟨⟨r.heap h.obj (by simp [h.ne]), ?_, fun x hx => ?_⟩, r⟩
  · have := (h.row.stored i (.int .u8 (b : Int))).1
    rw [show u8s (bs.set i b) = (u8s bs).set i (.int .u8 (b : Int)) from by simp [u8s, List.map_set]]
    exact this
  · rcases List.mem_or_eq_of_mem_set hx with hx | rfl
    · exact h.lt x hx
    · exact hb
theorem layB_set {bs : List Nat} {a : Nat} {l : List Nat} (b : Nat) (h : a + l.length < bs.length) : (layB bs a l).set (a + l.length) b = layB bs a (l ++ [b]) := by
  unfold layB
  have h1 : (bs.take a ++ l).length = a + l.length := by simp; omega
  rw [List.set_append_right _ _ (by omega), h1, Nat.sub_self]
  rw [List.drop_eq_getElem_cons h]
  simp [Nat.add_assoc]
theorem layB_nil (bs : List Nat) (a : Nat) : layB bs a [] = bs := by simp [layB]
theorem layB_len {bs : List Nat} {a : Nat} {l : List Nat} (h : a + l.length ≤ bs.length) : (layB bs a l).length = bs.length := by simp [layB]; omega
theorem wr8_lay (bs : List Nat) (a v : Nat) : layB bs a (le v 8) = wr8 bs a v := by unfold layB wr8; rw [le_len]

theorem rsized_ok (w : World) (k : Nat) (hk : k = 8) : Calls Tryz.prog 147 #[.int .i64 k] w fun e w' => e = .returned (.bool true) ∧ w = w' := by
  subst hk
  go_enter Tryz.func147, Tryz.ntmps147
  go_wp2_with fail
  go_ret
  exact ⟨rfl, rfl⟩
theorem rfits_ok (w : World) (a k : Nat) (h : RMemAt w q g n c bs) (ha : a < 18446744073709551616) (hk : k ≤ 65536) (hn : n ≤ 65536) :
    Calls Tryz.prog 137 #[.pointer (some ⟨q, 0, none⟩), .int .u64 a, .int .i64 k] w fun e w' => e = .returned (.bool (inB n a k)) ∧ w = w' := by
  have c0 := cell_of_heap (o := 0) h.obj rfl
  have hw1 : IntKind.u64.wrap (n : Int) = n := by rw [IntKind.wrap_u64]; omega
  have hw2 : IntKind.u64.wrap (k : Int) = k := by rw [IntKind.wrap_u64]; omega
  have hk0 : (k : Int) ≥ 0 := by omega
  clear h
  by_cases h1 : k ≤ n
  · have h1' : (k : Int) ≤ n := by omega
    have hw3 : IntKind.u64.wrap ((n : Int) - k) = ((n - k : Nat) : Int) := by rw [IntKind.wrap_u64]; omega
    by_cases h2 : 16 ≤ a
    · have h2' : (a : Int) ≥ 16 := by omega
      have HI : Hid (decide (a ≤ n - k) = inB n a k) := Lib.hid (by unfold inB; rw [decide_eq_decide]; omega)
      clear h1 h2
      go_enter Tryz.func137, Tryz.ntmps137
      go_wp2_with fail
      go_ret
      exact ⟨by rw [← HI.out]; rfl, rfl⟩
    · have h2' : ¬ (a : Int) ≥ 16 := by omega
      have HI : Hid (inB n a k = false) := Lib.hid (by unfold inB; exact decide_eq_false (by omega))
      clear h1 h2
      go_enter Tryz.func137, Tryz.ntmps137
      go_wp2_with fail
      go_ret
      exact ⟨by rw [HI.out]; rfl, rfl⟩
  · have h1' : ¬ (k : Int) ≤ n := by omega
    have HI : Hid (inB n a k = false) := Lib.hid (by unfold inB; exact decide_eq_false (by omega))
    clear h1
    go_enter Tryz.func137, Tryz.ntmps137
    go_wp2_with fail
    go_ret
    exact ⟨by rw [HI.out]; rfl, rfl⟩

/-! ### Load -/
theorem rload_out (w : World) (a k : Nat) (hk : k = 8) (h : RMemAt w q g n c bs) (ha : a < 18446744073709551616) (hn : n ≤ 65536) (hin : inB n a k = false) :
    Calls Tryz.prog 142 #[.pointer (some ⟨q, 0, none⟩), .int .u64 a, .int .i64 k] w fun e w' => e = .returned (.tuple #[.int .u64 0, .int .i64 15]) ∧ w = w' := by
  have HM := Lib.hid (fun w => rsized_ok w k hk)
  have HF := Lib.hid (rfits_ok w a k h ha (by omega) hn)
  rw [hin] at HF
  clear hin hk h
  go_enter Tryz.func142, Tryz.ntmps142
  go_wp2_with fail
  refine (HM.out _).mono ?_
  rintro e w' ⟨rfl, rfl⟩
  go_wp2_with fail
  refine HF.out.mono ?_
  rintro e w' ⟨rfl, rfl⟩
  go_wp2_with fail
  go_ret2
  exact ⟨rfl, rfl⟩
theorem unle_step {bs : List Nat} {a k j : Nat} (hj : j < k) (hak : a + k ≤ bs.length) : unle ((bs.drop (a + (k - (j + 1)))).take (j + 1)) = 256 * unle ((bs.drop (a + (k - j))).take j) + bs[a + (k - (j + 1))]'(by omega) := by
  rw [List.drop_eq_getElem_cons (by omega), List.take_succ_cons]
  simp only [unle]
  rw [show a + (k - (j + 1)) + 1 = a + (k - j) from by omega]
  omega
theorem rload_in (w : World) (a k : Nat) (hk : k = 8) (h : RMemAt w q g n c bs) (ha : a < 18446744073709551616) (hn : n ≤ 65536) (hin : inB n a k = true) :
    Calls Tryz.prog 142 #[.pointer (some ⟨q, 0, none⟩), .int .u64 a, .int .i64 k] w fun e w' => e = .returned (.tuple #[.int .u64 (unle ((bs.drop a).take k)), .int .i64 0]) ∧ Fr no w w' := by
  have HM := Lib.hid (fun w => rsized_ok w k hk)
  have HF := Lib.hid (rfits_ok w a k h ha (by omega) hn)
  rw [hin] at HF
  have hak : a + k ≤ n := by simp only [inB, decide_eq_true_eq] at hin; omega
  have HLEN := Lib.hid h.len
  have hk8 : k ≤ 8 := by omega
  have hw0 : IntKind.i64.wrap ((k : Int) - 1) = (k : Int) - 1 := by rw [IntKind.wrap_i64]; omega
  have hwa : IntKind.i64.wrap (a : Int) = a := by rw [IntKind.wrap_i64]; omega
  have H := Lib.hid h
  clear hin hk h
  go_enter Tryz.func142, Tryz.ntmps142
  go_wp2_with fail
  refine (HM.out _).mono ?_
  rintro e w' ⟨rfl, rfl⟩
  go_wp2_with fail
  refine HF.out.mono ?_
  rintro e w' ⟨rfl, rfl⟩
  go_wp2_with fail
  go_loopw [8, 9] (fun x y wr => ∃ j : Nat, j ≤ k ∧ y = .int .i64 ((k : Int) - 1 - j) ∧ x = .int .u64 (unle ((bs.drop (a + (k - j))).take j) : Nat) ∧ Hid (Fr no w wr)) (fun _ y _ => (intOf y + 1).toNat)
  case atStart => exact ⟨0, by omega, by simp, by simp [unle], Lib.hid (Fr.refl _ _)⟩
  case round =>
    obtain ⟨j, hj, rfl, rfl, hfr⟩ := hrel
    by_cases hjk : j < k
    · have hge : (k : Int) - 1 - j ≥ 0 := by omega
      have hst := unle_step (bs := bs) (a := a) (j := j) hjk (by have := HLEN.out; omega)
      have hbl : a + (k - (j + 1)) < bs.length := by have := HLEN.out; omega
      have HC := H.out.fr hfr.out
      have hcell := HC.cell hbl
      have c0 := cell_of_heap (o := 0) HC.obj rfl
      have hx : bs[a + (k - (j + 1))]'hbl < 256 := HC.lt _ (List.getElem_mem hbl)
      have hu : unle ((bs.drop (a + (k - j))).take j) < 256 ^ 7 := by
        refine Nat.lt_of_lt_of_le (unle_lt _ (fun b hb => HC.lt b (List.mem_of_mem_drop (List.mem_of_mem_take hb)))) (Nat.pow_le_pow_right (by decide) ?_)
        simp; omega
      have HST := Lib.hid hst
      clear hst HC
      generalize bs[a + (k - (j + 1))]'hbl = b at *
      generalize unle ((bs.drop (a + (k - j))).take j) = u at *
      have hm1 : IntKind.u64.wrap (256 * (u : Int)) = ((256 * u : Nat) : Int) := by rw [IntKind.wrap_u64]; omega
      have hm2 : IntKind.u64.wrap (b : Int) = b := by rw [IntKind.wrap_u64]; omega
      have hm3 : IntKind.u64.wrap (((256 * u : Nat) : Int) + b) = ((256 * u + b : Nat) : Int) := by rw [IntKind.wrap_u64]; omega
      have hm4 : IntKind.i64.wrap ((a : Int) + ((k : Int) - 1 - j)) = ((a + (k - (j + 1)) : Nat) : Int) := by rw [IntKind.wrap_i64]; omega
      have hm5 : IntKind.i64.wrap ((k : Int) - 1 - j - 1) = (k : Int) - 1 - (j + 1 : Nat) := by rw [IntKind.wrap_i64]; omega
      have hlt : ((a + (k - (j + 1)) : Nat) : Int) < n := by omega
      go_wp2_with fail
      go_roundw
      case rel => exact ⟨j + 1, by omega, by go_num, by rw [HST.out]; push_cast; rfl, hfr⟩
      case measure => first | (simp [intOf]; done) | (simp [intOf]; omega)
    · obtain rfl : j = k := by omega
      have hge : ¬ (j : Int) - 1 - j ≥ 0 := by omega
      have HZ : Hid (a + (j - j) = a) := Lib.hid (by omega)
      rw [HZ.out]
      go_wp2_with fail
      go_ret2
      exact ⟨rfl, hfr.out⟩

/-! ### Store -/
theorem rstore_out (w : World) (a k x : Nat) (hk : k = 8) (h : RMemAt w q g n c bs) (ha : a < 18446744073709551616) (hn : n ≤ 65536) (hin : inB n a k = false) :
    Calls Tryz.prog 91 #[.pointer (some ⟨q, 0, none⟩), .int .u64 a, .int .i64 k, .int .u64 x] w fun e w' => e = .returned (.int .i64 15) ∧ w = w' := by
  have HM := Lib.hid (fun w => rsized_ok w k hk)
  have HF := Lib.hid (rfits_ok w a k h ha (by omega) hn)
  rw [hin] at HF
  clear hin hk h
  go_enter Tryz.func91, Tryz.ntmps91
  go_wp2_with fail
  refine (HM.out _).mono ?_
  rintro e w' ⟨rfl, rfl⟩
  go_wp2_with fail
  refine HF.out.mono ?_
  rintro e w' ⟨rfl, rfl⟩
  go_wp2_with fail
  go_ret
  exact ⟨rfl, rfl⟩
theorem rstore_in (w : World) (a k x : Nat) (hk : k = 8) (h : RMemAt w q g n c bs) (ha : a < 18446744073709551616) (hn : n ≤ 65536) (hx : x < 18446744073709551616) (hin : inB n a k = true) :
    Calls Tryz.prog 91 #[.pointer (some ⟨q, 0, none⟩), .int .u64 a, .int .i64 k, .int .u64 x] w fun e w' => e = .returned (.int .i64 0) ∧ RMemAt w' q g n c (wr8 bs a x) ∧ Fr (only [g]) w w' := by
  have HM := Lib.hid (fun w => rsized_ok w k hk)
  have HF := Lib.hid (rfits_ok w a k h ha (by omega) hn)
  rw [hin] at HF
  have hak : a + k ≤ n := by simp only [inB, decide_eq_true_eq] at hin; omega
  have HLEN := Lib.hid h.len
  have HK := Lib.hid hk
  have hk8 : k ≤ 8 := by omega
  have hwa : IntKind.i64.wrap (a : Int) = a := by rw [IntKind.wrap_i64]; omega
  have H := Lib.hid h
  clear hin hk h
  go_enter Tryz.func91, Tryz.ntmps91
  go_wp2_with fail
  refine (HM.out _).mono ?_
  rintro e w' ⟨rfl, rfl⟩
  go_wp2_with fail
  refine HF.out.mono ?_
  rintro e w' ⟨rfl, rfl⟩
  go_wp2_with fail
  go_loopw [3, 9] (fun z y wr => ∃ j : Nat, j ≤ k ∧ y = .int .i64 j ∧ z = .int .u64 (x / 256 ^ j : Nat) ∧ Hid (RMemAt wr q g n c (layB bs a (le x j))) ∧ Hid (Fr (only [g]) w wr)) (fun _ y _ => (k - intOf y).toNat)
  case atStart => exact ⟨0, by omega, by simp, by simp, Lib.hid (by show RMemAt w q g n c (layB bs a []); rw [layB_nil]; exact H.out), Lib.hid (Fr.refl _ _)⟩
  case round =>
    obtain ⟨j, hj, rfl, rfl, hm, hfr⟩ := hrel
    by_cases hjk : j < k
    · have hlt : (j : Int) < k := by omega
      have hxj : x / 256 ^ j < 18446744073709551616 := Nat.lt_of_le_of_lt (Nat.div_le_self _ _) hx
      have hll : (layB bs a (le x j)).length = bs.length := layB_len (by rw [le_len]; have := HLEN.out; omega)
      have hs := hm.out.set (a + j) (x / 256 ^ j % 256) (Nat.mod_lt _ (by decide))
      have HSET : Hid (layB bs a (le x (j + 1)) = (layB bs a (le x j)).set (a + j) (x / 256 ^ j % 256)) := Lib.hid (by
        have := layB_set (bs := bs) (a := a) (l := le x j) (x / 256 ^ j % 256) (by rw [le_len]; have := HLEN.out; omega)
        rw [le_len] at this
        rw [this]; rfl)
      rw [← HSET.out] at hs
      have HS := Lib.hid hs.1
      have RS := Lib.hid (hfr.out.trans hs.2)
      obtain ⟨bo, hcell⟩ : ∃ bo : Nat, wr.cell? ⟨g, a + j, none⟩ = some (.int .u8 (bo : Int)) := ⟨_, hm.out.cell (i := a + j) (by rw [hll]; have := HLEN.out; omega)⟩
      have hfz : wr.frozen? ⟨g, a + j, none⟩ = false := hm.out.row.frozenAt (a + j)
      have c0 := cell_of_heap (o := 0) hm.out.obj rfl
      have HXN : Hid (x / 256 ^ (j + 1) = x / 256 ^ j / 256) := Lib.hid (by rw [Nat.pow_succ, Nat.div_div_eq_div_mul])
      clear hs hll HSET
      generalize x / 256 ^ j = u at *
      have hm1 : Int.tmod (u : Int) 256 = ((u % 256 : Nat) : Int) := by rw [Int.tmod_eq_emod_of_nonneg (by omega)]; omega
      have hm2 : IntKind.u64.wrap ((u % 256 : Nat) : Int) = ((u % 256 : Nat) : Int) := by rw [IntKind.wrap_u64]; omega
      have hm3 : IntKind.u8.wrap ((u % 256 : Nat) : Int) = ((u % 256 : Nat) : Int) := by rw [IntKind.wrap_u8]; omega
      have hm4 : IntKind.i64.wrap ((a : Int) + (j : Int)) = ((a + j : Nat) : Int) := by rw [IntKind.wrap_i64]; omega
      have hm5 : Int.tdiv (u : Int) 256 = ((u / 256 : Nat) : Int) := by rw [Int.tdiv_eq_ediv_of_nonneg (by omega)]; omega
      have hm6 : IntKind.u64.wrap ((u / 256 : Nat) : Int) = ((u / 256 : Nat) : Int) := by rw [IntKind.wrap_u64]; omega
      have hltn : ((a + j : Nat) : Int) < n := by omega
      go_wp2_with fail
      go_roundw
      case rel => exact ⟨j + 1, by omega, by go_num, by rw [HXN.out]; push_cast; rfl, by push_cast at HS; exact HS, by push_cast at RS; exact RS⟩
      case measure => first | (simp [intOf]; done) | (simp [intOf]; omega)
    · obtain rfl : j = k := by omega
      have HE : Hid (RMemAt wr q g n c (wr8 bs a x)) := Lib.hid (by have := hm.out; rw [HK.out, wr8_lay] at this; exact this)
      clear hm
      go_wp2_with fail
      go_ret
      exact ⟨rfl, HE.out, hfr.out⟩
end

end Go.Proofs.YtihnkijeefkefaaGreat

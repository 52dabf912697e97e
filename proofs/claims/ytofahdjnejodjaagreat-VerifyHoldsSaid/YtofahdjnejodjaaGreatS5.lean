/- slices.Repeat of one number. -/
import Derived.Test.YtofahdjnejodjaaGreatS3
import Derived.Laws.CopyOwn
set_option linter.unusedSimpArgs false
set_option linter.unusedVariables false
set_option linter.unusedSectionVars false
set_option linter.unnecessarySimpa false
namespace Go.Proofs.YtofahdjnejodjaaGreat
open Go.RowKit Go.Flow

attribute [local go_sem] Program.isFuncB Program.isSliceB

variable {w w' w'' w0 : World}

theorem wp_copy_row {P : Program} {w : World} {o : Oper} {a : Act} {K : Act → World → Prop} {Q : Exit → Act → World → Prop} (d s : Operand) (dT sT : TypeId)
    (ho : o.op = .call { callee := .builtin .copy, args := #[d, s], argTypes := #[dT, sT] }) (elem : TypeId) (hu : P.underlying dT = some (.slice elem)) (hsz : (P.info? elem).map (·.size) = some 1)
    (g off dLen dCap : Nat) (ad : Addr) (sLen sCap : Nat) (hd : a.eval d = .slice (some ⟨g, off, none⟩) dLen dCap) (hs : a.eval s = .slice (some ad) sLen sCap)
    (cur : Array Value) (t : TypeId) (hg : w.heap[g]? = some (.cells cur t (0, 0))) (cs : List Value) (hn : cs.length = Nat.min sLen dLen)
    (hsrc : ∀ j v, cs[j]? = some v → w.cell? (ad.add j) = some v) (hfit : off + cs.length ≤ cur.size) (h1 : ∀ v ∈ cs, v.oneCell' = true)
    (h : ∀ w', w'.heap[g]? = some (.cells (cur.toList.take off ++ (cs ++ cur.toList.drop (off + cs.length))).toArray t (0, 0)) → Fr (only [g]) w w' → K (a.put o.dst (goInt cs.length)) w') : o.wp P a w K Q := by
  have hrun := run_copy_row (P := P) w dT sT o.type elem g off dLen dCap ad sLen sCap cur t cs hu hsz hg hn hsrc hfit h1
  have hh := h (w.setRow g (cur.toList.take off ++ (cs ++ cur.toList.drop (off + cs.length))).toArray) (setRow_heap w g cur _ t _ hg)
    ⟨rfl, rfl, rfl, by simp [World.setRow], fun k hk hs => setRow_other w g k _ (fun e => hs (by simp [e]))⟩
  unfold Oper.wp
  simp [execOp, ho, resolve, invoke, builtin, hd, hs, hrun, Result.andThen]
  exact hh
theorem wpList_copy_fr {P : Program} {w : World} {ops : Array Oper} {rest : List Oper} {o : Oper} {a : Act} {Q : Exit → Act → World → Prop} (hgd : o.guard = none) (d s : Operand) (dT sT : TypeId)
    (ho : o.op = .call { callee := .builtin .copy, args := #[d, s], argTypes := #[dT, sT] }) (elem : TypeId) (hu : P.underlying dT = some (.slice elem)) (hsz : (P.info? elem).map (·.size) = some 1)
    (g off dLen dCap : Nat) (ad : Addr) (sLen sCap : Nat) (hd : a.eval d = .slice (some ⟨g, off, none⟩) dLen dCap) (hs : a.eval s = .slice (some ad) sLen sCap)
    (cur : Array Value) (t : TypeId) (hg : w.heap[g]? = some (.cells cur t (0, 0))) (cs : List Value) (hn : cs.length = Nat.min sLen dLen)
    (hsrc : ∀ j v, cs[j]? = some v → w.cell? (ad.add j) = some v) (hfit : off + cs.length ≤ cur.size) (h1 : ∀ v ∈ cs, v.oneCell' = true)
    (h : ∀ w', w'.heap[g]? = some (.cells (cur.toList.take off ++ (cs ++ cur.toList.drop (off + cs.length))).toArray t (0, 0)) → Fr (only [g]) w w' → wpList P ops Q rest (a.put o.dst (goInt cs.length)) w') : wpList P ops Q (o :: rest) a w :=
  wpList_plain hgd fun _ hK => wp_copy_row d s dT sT ho elem hu hsz g off dLen dCap ad sLen sCap hd hs cur t hg cs hn hsrc hfit h1 (fun w' h2 h3 => hK _ _ (h w' h2 h3))
theorem Tryz.infoU64 : (Tryz.prog.info? 30).map (fun i => (i.zero, i.size, i.bytes)) = some (some (.int .u64 0), 1, 8) := by kernel_rfl
theorem Tryz.sizeU64 : (Tryz.prog.info? 30).map (·.size) = some 1 := by kernel_rfl

/-- the first m places filled -/
def repC (n m : Nat) (x : Int) : List Value := List.replicate m (.int .u64 x) ++ List.replicate (n - m) (.int .u64 0)
theorem repC_len (n m : Nat) (x : Int) (h : m ≤ n) : (repC n m x).length = n := by simp [repC]; omega
theorem repC_zero (n : Nat) (x : Int) : repC n 0 x = List.replicate n (.int .u64 0) := by simp [repC]
theorem repC_full (n : Nat) (x : Int) : repC n n x = List.replicate n (.int .u64 x) := by simp [repC]
theorem repC_more (n m k : Nat) (x : Int) (h : m + k ≤ n) : (repC n m x).take m ++ (List.replicate k (.int .u64 x) ++ (repC n m x).drop (m + k)) = repC n (m + k) x := by
  unfold repC
  rw [List.take_append_of_le_length (by simp), List.take_of_length_le (by simp), List.drop_append, List.drop_of_length_le (by simp), List.nil_append, ← List.append_assoc, List.replicate_append_replicate]
  congr 1
  simp [List.drop_replicate]
  omega
theorem repC_at (n m j : Nat) (x : Int) (h : j < m) : (repC n m x)[j]? = some (.int .u64 x) := by simp [repC, List.getElem?_append, h]

set_option maxRecDepth 100000 in
set_option maxHeartbeats 8000000 in
theorem repeat_ok (w : World) (xb : Nat) (x : Int) (n : Nat) (hx : w.cell? ⟨xb, 0, none⟩ = some (.int .u64 x)) (hn : 0 < n) (hn2 : n ≤ 100000) :
    Calls Tryz.prog 36 #[.slice (some ⟨xb, 0, none⟩) 1 1, .int .i64 n] w fun e w' => e = .returned (.slice (some ⟨w.heap.size, 0, none⟩) n n) ∧ w'.heap[w.heap.size]? = some (.cells (List.replicate n (.int .u64 x)).toArray 30 (0, 0)) ∧ Fr no w w' := by
  have hxb := World.block_lt_of_cell? w _ hx
  have HM : Hid (Calls Tryz.prog 69 #[.int .u64 1, .int .u64 n] w fun e w' => e = .returned (.tuple #[.int .u64 0, .int .u64 n]) ∧ w' = w) := Lib.hid (by
    have h := Tryz.bits_Mul 1 n (by omega) (by omega) w
    rw [show (1 * n / 18446744073709551616 : Nat) = 0 by omega, show (1 * n % 18446744073709551616 : Nat) = n by omega] at h
    exact h)
  have HX := Lib.hid hx
  go_enter Tryz.func36, Tryz.ntmps36
  go_wp2_with fail
  refine HM.out.mono ?_
  rintro e w1 ⟨rfl, rfl⟩
  have e1 : ¬ ((n : Int) > 9223372036854775807) := by omega
  clear HM
  go_upto_region 7 with ((refine wpList_make_any rfl (.tmp 29) (.tmp 29) 26 rfl w1.heap.size 30 (.int .u64 0) 8 Tryz.underlying26 Tryz.infoU64 rfl .i64 .i64 n n n rfl rfl rfl rfl (by omega) (by unfold maxLen; omega) (Nat.le_refl _) ?_); intro w3 ho3 hg3)
  obtain ⟨g, hg0⟩ : ∃ g, g = w1.heap.size := ⟨_, rfl⟩
  have HG3 : Hid (w3.heap[g]? = some (.cells (repC n 0 x).toArray 30 (0, 0))) := Lib.hid (by rw [repC_zero, hg0]; exact owns_full ho3)
  have r3 : Fr no w1 w3 := (Fr.refl no w1).grown hg3 (by intro k hk; cases hk)
  have hx3 := r3.cell hx (by simp)
  have R3 := Lib.hid r3
  have HG0 := Lib.hid hg0
  rw [← hg0]
  clear ho3 hg3 r3 hx HX
  have hgx : xb ≠ g := by omega
  clear hg0
  have HS : ∀ (j : Nat) v, [Value.int .u64 x][j]? = some v → w3.cell? ((⟨xb, 0, none⟩ : Addr).add j) = some v := fun j v hj => by
    rcases j with _ | j
    · simp at hj; subst hj; exact hx3
    · simp at hj
  have HS' := Lib.hid HS
  have HF : Hid (0 + [Value.int .u64 x].length ≤ (repC n 0 x).toArray.size) := Lib.hid (by simp [repC_len]; omega)
  have HMn : Hid ([Value.int .u64 x].length = Nat.min 1 n) := Lib.hid (by simp [Nat.min_def]; omega)
  clear HS hx3
  go_wp2_with ((refine wpList_copy_fr rfl (.tmp 31) (.tmp 32) 26 26 rfl 30 Tryz.underlying26 Tryz.sizeU64 g 0 n n ⟨xb, 0, none⟩ 1 1 rfl rfl _ _ HG3.out [.int .u64 x] HMn.out HS'.out HF.out (by simp [Value.oneCell']) ?_); intro w4 hg4 r4)
  have HG4 : Hid (w4.heap[g]? = some (.cells (repC n 1 x).toArray 30 (0, 0))) := Lib.hid (by
    have := repC_more n 0 1 x (by omega)
    rw [Nat.zero_add] at this
    rw [hg4, ← this]
    rfl)
  have R4 := Lib.hid (R3.out.trans' r4 (fun k hk _ => by have := HG0.out; simp at hk; omega))
  clear hg4 r4 HG3 R3 HS' HF HMn
  go_loopw [8] (fun y wr => ∃ m : Nat, y = .int .i64 m ∧ Hid (0 < m ∧ m ≤ n) ∧ Hid (wr.heap[g]? = some (.cells (repC n m x).toArray 30 (0, 0))) ∧ Hid (Fr no w1 wr)) (fun y _ => n - nOf y)
  case atStart => exact ⟨1, rfl, Lib.hid (by omega), HG4, R4⟩
  case round =>
    clear HG4 R4
    obtain ⟨m, rfl, hm, HG, HR⟩ := hrel
    have hm0 := hm.out.1
    have hm1 := hm.out.2
    by_cases hmn : m = n
    · subst hmn
      go_wp2_with fail
      go_ret
      exact ⟨by rw [← HG0.out]; rfl, by rw [← repC_full m x, ← HG0.out]; exact HG.out, HR.out⟩
    · have hlt : m < n := by omega
      have hlt' : (m : Int) < n := by omega
      have hle : m ≤ n := hm1
      have hne : ¬ n = m := fun e => hmn e.symm
      clear hm hm1 hmn
      go_upto_region 9 with fail
      obtain ⟨k, hk⟩ : ∃ k, k = Nat.min m (n - m) := ⟨_, rfl⟩
      have hkm : k ≤ m := by rw [hk]; exact Nat.min_le_left _ _
      have hkn : m + k ≤ n := by have := Nat.min_le_right m (n - m); have : k ≤ n - m := hk ▸ this; omega
      have hk0 : 0 < k := by rw [hk]; exact Nat.lt_min.2 ⟨hm0, by omega⟩
      have ew : IntKind.i64.wrap ((m : Int) + (k : Int)) = (m : Int) + (k : Int) := by rw [IntKind.wrap_i64]; omega
      have HK := Lib.hid hk
      have HG1 : Hid ((wr.drew).heap[g]? = some (.cells (repC n m x).toArray 30 (0, 0))) := Lib.hid HG.out
      have HSR : Hid (∀ (j : Nat) v, (List.replicate k (Value.int .u64 x))[j]? = some v → (wr.drew).cell? ((⟨g, 0, none⟩ : Addr).add j) = some v) := Lib.hid (fun j v hj => by
        obtain ⟨hj1, hj2⟩ := List.getElem?_eq_some_iff.1 hj
        rw [List.length_replicate] at hj1
        simp at hj2
        subst hj2
        rw [Addr.add_lit, Nat.zero_add]
        exact cell_of_heap HG1.out (by simpa using repC_at n m j x (by omega)))
      clear hk
      refine Lex.region [7] [9, 1] (by kernel_rfl) (by kernel_rfl) ?_
      refine Lex.opens (fun _ => True) (trivial) ?_
      repeat (first
        | (refine Lex.skips (by rfl) ?_; (try simp only [Act.put, List.setIfInBounds_toArray, List.set_cons_zero, List.set_cons_succ]))
        | (refine Lex.quiet (v := ?_) (by rfl) (by rfl) ?_ ?_; rotate_left; (focus (intro w' hS'; go_simp; try rfl)); (try simp only [Act.put, List.setIfInBounds_toArray, List.set_cons_zero, List.set_cons_succ])))
      refine Lex.loud (by rfl) (by rfl) ?_
      intro K' hK'
      refine wp_copy_row (.tmp 41) (.tmp 44) 26 26 rfl 30 Tryz.underlying26 Tryz.sizeU64 g m (n - m) (n - m) ⟨g, 0, none⟩ m n rfl rfl _ _ HG1.out (List.replicate k (Value.int .u64 x)) (by rw [List.length_replicate]; exact HK.out) HSR.out (by simp [repC_len, hle]; omega) (by simp [Value.oneCell']) ?_
      intro w5 hg5 r5
      have HG5 : Hid (w5.heap[g]? = some (.cells (repC n (m + k) x).toArray 30 (0, 0))) := Lib.hid (by
        rw [hg5, ← repC_more n m k x hkn]
        simp)
      have R5 := Lib.hid ((HR.out.drew).trans' r5 (fun k hk _ => by have := HG0.out; simp at hk; omega))
      have HMK : Hid (0 < m + k ∧ m + k ≤ n) := Lib.hid ⟨by omega, hkn⟩
      clear hg5 r5 HG HG1 HSR HR HK
      rw [List.length_replicate]
      refine hK' _ _ (trivial) ?_
      clear hK'
      try simp only [Act.put, List.setIfInBounds_toArray, List.set_cons_zero, List.set_cons_succ]
      repeat (first
        | (refine Lex.skips (by rfl) ?_; (try simp only [Act.put, List.setIfInBounds_toArray, List.set_cons_zero, List.set_cons_succ]))
        | (refine Lex.quiet (v := ?_) (by rfl) (by rfl) ?_ ?_; rotate_left; (focus (intro w' hS'; go_simp; try rfl)); (try simp only [Act.put, List.setIfInBounds_toArray, List.set_cons_zero, List.set_cons_succ])))
      refine Lex.done ?_
      refine Lex.opens (fun _ => True) (trivial) ?_
      repeat (first
        | (refine Lex.skips (by rfl) ?_; (try simp only [Act.put, List.setIfInBounds_toArray, List.set_cons_zero, List.set_cons_succ]))
        | (refine Lex.quiet (v := ?_) (by rfl) (by rfl) ?_ ?_; rotate_left; (focus (intro w' hS'; go_simp; try rfl)); (try simp only [Act.put, List.setIfInBounds_toArray, List.set_cons_zero, List.set_cons_succ])))
      refine Lex.done ?_
      refine Lex.ends ?_
      go_wp2_with fail
      go_roundw
      case rel => exact ⟨m + k, by simp, HMK, HG5, R5⟩
      case measure => simp [nOf]; omega

end Go.Proofs.YtofahdjnejodjaaGreat

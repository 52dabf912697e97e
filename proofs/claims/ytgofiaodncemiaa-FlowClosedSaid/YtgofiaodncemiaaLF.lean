import Derived.Test.YtgofiaodncemiaaLE
import Derived.Defers
set_option linter.unusedSimpArgs false
set_option linter.unusedVariables false
set_option linter.unusedSectionVars false
set_option linter.unnecessarySimpa false
namespace Go.Proofs.Ytgofiaodncemiaa
open Go.RowKit

attribute [local go_sem] Program.isFuncB Program.isSliceB

variable {w w' w'' w0 : World}

/-- so many bytes from a place on, as a number, and what is left of the reader: its place, and whether it is short -/
def takeR (bs : List Nat) (n : Nat) (p : Nat × Bool) : Nat × Nat × Bool :=
  if p.2 = true ∨ bs.length < p.1 + n then (0, p.1, true) else (unle ((bs.drop p.1).take n), p.1 + n, false)

/-- a reader in a block of its own -/
structure RdAt (w : World) (rb : Nat) (bv : Value) (bs : List Nat) (p : Nat × Bool) : Prop where
  obj : w.heap[rb]? = some (.cells #[bv, .int .i64 (p.1 : Nat), .bool p.2] 82 (0, 0))
  bytes : Reads w bv 1 bs.length (u8s bs)
  small : ∀ b ∈ bs, b < 256
  ne : ∀ k, bv.ownBlock = some k → k ≠ rb
  len : bs.length ≤ 100000
  at_ : p.1 ≤ bs.length

theorem reads_sub {v : Value} {l : List Nat} {a n : Nat} (h : Reads w v 1 l.length (u8s l)) (hn : 0 < n) (hl : a + n ≤ l.length) : ∃ b o c, v = .slice (some ⟨b, o, none⟩) l.length c ∧ l.length ≤ c ∧ Reads w (.slice (some ⟨b, o + a, none⟩) n (c - a)) 1 n (u8s ((l.drop a).take n)) := by
  rcases h with ⟨_, h0, _⟩ | ⟨ad, cap, rfl, h1, h2, h3, h4⟩
  · omega
  · obtain ⟨b, o, rfl⟩ : ∃ b o, ad = ⟨b, o, none⟩ := by
      have h5 := h4 0 (.int .u8 (l[0]'(by omega) : Nat)) (by simp only [u8s, List.getElem?_map]; rw [List.getElem?_eq_getElem (by omega)]; rfl)
      have := spot_none h5
      rw [show ad.add 0 = ad from by unfold Addr.add; simp] at this
      exact ⟨_, _, this⟩
    refine ⟨b, o, cap, rfl, h1, .inr ⟨_, _, rfl, by omega, by omega, by rw [u8s_len]; simp; omega, fun j u hu => ?_⟩⟩
    rw [Addr.add_lit]
    have hj : j < n := by
      have := (List.getElem?_eq_some_iff.1 hu).1
      rw [u8s_len] at this
      simp at this; omega
    have h5 := h4 (a + j) u (by
      simp only [u8s, List.getElem?_map, List.getElem?_take, List.getElem?_drop] at hu ⊢
      rw [if_pos hj] at hu
      exact hu)
    rw [Addr.add_lit] at h5
    rw [Nat.add_assoc]
    exact h5

set_option maxHeartbeats 4000000 in
theorem take_ok (w : World) (rb : Nat) (bv : Value) (bs : List Nat) (p : Nat × Bool) (n : Nat) (hr : RdAt w rb bv bs p) (hn : n = 1 ∨ n = 2 ∨ n = 8) :
    Calls Try.prog 43 #[.pointer (some ⟨rb, 0, none⟩), .int .i64 n] w fun e w' => e = .returned (.int .u64 (takeR bs n p).1) ∧ RdAt w' rb bv bs (takeR bs n p).2 ∧ Fr (only [rb]) w w' := by
  obtain ⟨at', sh⟩ := p
  have HR := Lib.hid hr
  obtain ⟨va, vc, rfl⟩ := hr.bytes.shape
  have c0 : w.cell? ⟨rb, 0, none⟩ = some (.slice va bs.length vc) := cell_of_heap hr.obj rfl
  have c1 : w.cell? ⟨rb, 1, none⟩ = some (.int .i64 (at' : Nat)) := cell_of_heap hr.obj rfl
  have c2 : w.cell? ⟨rb, 2, none⟩ = some (.bool sh) := cell_of_heap hr.obj rfl
  have f1 : w.frozen? ⟨rb, 1, none⟩ = false := frozen_of_heap hr.obj
  have f2 : w.frozen? ⟨rb, 2, none⟩ = false := frozen_of_heap hr.obj
  have hat := hr.at_
  have hln := hr.len
  dsimp only at hat
  clear hr
  have HSH : Hid (∀ w', w'.heap[rb]? = some (.cells #[.slice va bs.length vc, .int .i64 (at' : Nat), .bool true] 82 (0, 0)) → Fr (only [rb]) w w' → RdAt w' rb (.slice va bs.length vc) bs (at', true)) := Lib.hid (fun w' h hf =>
    ⟨h, HR.out.bytes.fr hf (fun k hk => by simpa using HR.out.ne k hk), HR.out.small, HR.out.ne, HR.out.len, HR.out.at_⟩)
  by_cases hs : sh = true ∨ bs.length < at' + n
  · have HT : Hid (takeR bs n (at', sh) = (0, at', true)) := Lib.hid (by unfold takeR; rw [if_pos hs])
    have hcs : (bs.length < at' + n) ∨ (¬ bs.length < at' + n ∧ sh = true) := by
      rcases hs with h | h
      · by_cases h2 : bs.length < at' + n
        · exact .inl h2
        · exact .inr ⟨h2, h⟩
      · exact .inl h
    clear hs
    rcases hcs with h1 | ⟨h1, rfl⟩
    · have g1 : (bs.length : Int) - at' < n := by omega
      go_enter Try.func43, Try.ntmps43
      go_wp2_with fail
      go_quiet (fail)
      go_wp2_with fail
      go_ret
      have r := (((Fr.refl (only [rb]) w).drewN nq).setCell ⟨rb, 2, none⟩ (.bool true) (.inl (by simp)))
      exact ⟨by rw [HT.out]; rfl, by rw [HT.out]; exact HSH.out _ (heap_setCell (((Fr.refl no w).drewN nq).heap HR.out.obj (by simp))) r, r⟩
    · have g0 : ¬ (bs.length : Int) - at' < n := by omega
      have g1 : decide ((bs.length : Int) - at' < n) = false := decide_eq_false g0
      go_enter Try.func43, Try.ntmps43
      go_wp2_with fail
      go_quiet (fail)
      go_wp2_with fail
      go_ret
      have r := (((Fr.refl (only [rb]) w).drewN nq).setCell ⟨rb, 2, none⟩ (.bool true) (.inl (by simp)))
      exact ⟨by rw [HT.out]; rfl, by rw [HT.out]; exact HSH.out _ (heap_setCell (((Fr.refl no w).drewN nq).heap HR.out.obj (by simp))) r, r⟩
  · have hs1 : sh = false := by cases sh with | false => rfl | true => exact (hs (.inl rfl)).elim
    subst hs1
    have h1 : at' + n ≤ bs.length := by
      rcases Nat.lt_or_ge bs.length (at' + n) with h | h
      · exact (hs (.inr h)).elim
      · exact h
    have HT : Hid (takeR bs n (at', false) = (unle ((bs.drop at').take n), at' + n, false)) := Lib.hid (by unfold takeR; rw [if_neg hs])
    have g0 : ¬ (bs.length : Int) - at' < n := by omega
    have g1 : decide ((bs.length : Int) - at' < n) = false := decide_eq_false g0
    obtain ⟨b, o, c, hv, hc, hsub⟩ := reads_sub HR.out.bytes (a := at') (n := n) (by omega) h1
    cases hv
    have HSUB := Lib.hid hsub
    have hlk : ((bs.drop at').take n).length = n := by simp; omega
    have HLK := Lib.hid hlk
    have HGET := Lib.hid (fun w1 (h : Fr (only [rb]) w w1) => (wget_ok w1 (.slice (some ⟨b, o + at', none⟩) n (vc - at')) ((bs.drop at').take n) (by
      rw [hlk]
      exact hsub.fr h (fun k hk => by have := HR.out.ne k hk; simpa using this)) (by rw [hlk]; omega) (fun b hb => HR.out.small b (List.mem_of_mem_drop (List.mem_of_mem_take hb)))).mono (fun e w' (h : e = _ ∧ w1 = w') => (⟨h.1, h.2.symm⟩ : e = _ ∧ w' = w1)))
    generalize unle ((bs.drop at').take n) = x at *
    have hvl : at' + n ≤ vc := by omega
    have g2 : (at' : Int) + n - n = at' := by omega
    clear hs hsub
    go_enter Try.func43, Try.ntmps43
    go_wp2_with fail
    go_quiet (fail)
    go_wp2_with fail
    have r := (((Fr.refl (only [rb]) w).drewN nq).setCell ⟨rb, 1, none⟩ (.int .i64 ((at' : Int) + n)) (.inl (by simp)))
    have hob := heap_setCell (o := 1) (v := .int .i64 ((at' : Int) + n)) (((Fr.refl no w).drewN nq).heap HR.out.obj (by simp))
    generalize World.setCell (w.drewN nq) ⟨rb, 1, none⟩ (.int .i64 ((at' : Int) + n)) = w1 at *
    obtain ⟨q, hq⟩ : ∃ q, q = at' + n := ⟨_, rfl⟩
    have hqi : (at' : Int) + n = (q : Nat) := by omega
    rw [hqi] at hob
    have hqn : q - at' = n := by omega
    have HG2 := Lib.hid (HGET.out)
    rw [← hqn] at HG2
    have hX : IntKind.i64.wrap ((q : Int) - n) = (at' : Nat) := by rw [IntKind.wrap_i64]; omega
    have HR1 := Lib.hid r
    have HOB := Lib.hid hob
    have HQ := Lib.hid hq
    have e0 : w1.cell? ⟨rb, 0, none⟩ = some (.slice (some ⟨b, o, none⟩) bs.length vc) := cell_of_heap hob rfl
    have e1 : w1.cell? ⟨rb, 1, none⟩ = some (.int .i64 (q : Nat)) := cell_of_heap hob rfl
    have k1 : at' ≤ q := by omega
    have k2 : q ≤ vc := by omega
    clear hq hqi hqn r hob c0 c1 c2 f1 f2 g1 g2 g0 hlk
    go_quiet ((go_at_call 51; exact Calls.quiet_of_same (HG2.out _ (HR1.out.drewN _))))
    go_wp2_with fail
    go_ret
    have rf := HR1.out.drewN nq
    have hh := ((Fr.refl no w1).drewN nq).heap HOB.out (by simp)
    refine ⟨by rw [HT.out]; rfl, ?_, rf⟩
    rw [HT.out]
    exact ⟨by rw [← HQ.out]; exact hh, HR.out.bytes.fr rf (fun k hk => by simpa using HR.out.ne k hk), HR.out.small, HR.out.ne, HR.out.len, h1⟩

end Go.Proofs.Ytgofiaodncemiaa

namespace Go.Proofs.Ytgofiaodncemiaa
open Go.RowKit

attribute [local go_sem] Program.isFuncB Program.isSliceB

variable {w w' w'' w0 : World}

theorem Try.infoFault : (Try.prog.info? 49).map (·.size) = some 2 := by kernel_rfl

theorem elem_ne {a b : Nat} {c1 c2 : Array Value} {t1 t2 : TypeId} (h1 : w.heap[a]? = some (.cells c1 t1 (0, 0))) (h2 : w.heap[b]? = some (.cells c2 t2 (0, 0))) (h : t1 ≠ t2) : a ≠ b := by
  rintro rfl
  rw [h1] at h2
  simp at h2
  exact h h2.2

/-- what tell leaves -/
structure Told (w w' : World) (ib tb fb : Nat) (cs : Array Value) (tv er fa : Int) : Prop where
  ins : w'.heap[ib]? = some (.cells cs 42 (0, 0))
  to_ : w'.heap[tb]? = some (.cells #[.int .i64 tv] 3 (0, 0))
  fault : w'.heap[fb]? = some (.cells #[.int .i64 er, .int .i64 fa] 49 (0, 0))
  fr : Fr (only [ib, tb, fb]) w w'

def zeroIns : Array Value := #[.int .i64 0, .int .i64 0, .int .i64 0, .int .i64 0, .int .i64 0, .slice none 0 0]

set_option maxHeartbeats 4000000 in
/-- an error was told already -/
theorem tell_err (w : World) (rb ib tb fb : Nat) (bv : Value) (bs : List Nat) (p : Nat × Bool) (u : FrameMode) (hr : RdAt w rb bv bs p) (cs : Array Value) (hcs : cs.size = 6) (hi : w.heap[ib]? = some (.cells cs 42 (0, 0)))
    (tv er fa : Int) (ht : w.heap[tb]? = some (.cells #[.int .i64 tv] 3 (0, 0))) (hf : w.heap[fb]? = some (.cells #[.int .i64 er, .int .i64 fa] 49 (0, 0))) (her : er ≠ 0) :
    CallsD Try.prog 42 #[.pointer (some ⟨rb, 0, none⟩), .pointer (some ⟨ib, 0, none⟩), .pointer (some ⟨tb, 0, none⟩), .pointer (some ⟨fb, 0, none⟩)] u w fun e u' w' => u' = u ∧ (e = .returned (.tuple #[]) ∧ Told w w' ib tb fb zeroIns 0 er fa) := by
  have n1 := elem_ne hi ht (by decide)
  have n2 := elem_ne hi hf (by decide)
  have n3 := elem_ne ht hf (by decide)
  have e1 : (er == 0) = false := by simpa using her
  have e2 : (er != 0) = true := by simpa using her
  have c0 : w.cell? ⟨fb, 0, none⟩ = some (.int .i64 er) := cell_of_heap hf rfl
  have r1 := fr_setRow (g := ib) (cs := zeroIns) (Fr.refl (only [ib]) w) (.inl (by simp))
  have h1 := setRow_heap w ib cs zeroIns _ _ hi
  have h2 := r1.heap ht (by simpa using fun e => n1 e.symm)
  have h3 := r1.heap hf (by simpa using fun e => n2 e.symm)
  have HR1 := Lib.hid r1
  have H1 := Lib.hid h1
  have H2 := Lib.hid h2
  have H3 := Lib.hid h3
  have HI := Lib.hid hi
  have HCS := Lib.hid hcs
  have N1 := Lib.hid n1
  have N3 := Lib.hid n3
  clear hr hi ht hf her n1 n2 n3 r1 h1 h3 hcs
  have t0 : (w.setRow ib zeroIns).cell? ⟨tb, 0, none⟩ = some (.int .i64 tv) := cell_of_heap h2 rfl
  have t1 : (w.setRow ib zeroIns).frozen? ⟨tb, 0, none⟩ = false := frozen_of_heap h2
  clear h2
  go_enter_d Try.func42, Try.ntmps42
  go_wp2_with (refine wpList_store_row rfl 42 (.tmp 35) (.tmp 34) rfl ib zeroIns rfl rfl _ _ HI.out (by rw [Try.infoIns]; rfl) (by rw [HCS.out]; rfl) (by simp [zeroIns, Value.oneCell']) ?_; rw [act_put_none])
  go_end0
  have r2 : Fr (only [tb]) (w.setRow ib zeroIns) ((w.setRow ib zeroIns).setCell ⟨tb, 0, none⟩ (.int .i64 0)) := (Fr.refl _ _).setCell _ _ (.inl (by simp))
  exact ⟨rfl, r2.heap H1.out (by simpa using N1.out), heap_setCell H2.out, r2.heap H3.out (by simpa using fun e => N3.out e.symm), (HR1.out.mono (fun k hk _ => by simp at hk; simp [hk])).trans (r2.mono (fun k hk _ => by simp at hk; simp [hk]))⟩

set_option maxHeartbeats 4000000 in
/-- something was not there -/
theorem tell_short (w : World) (rb ib tb fb : Nat) (bv : Value) (bs : List Nat) (p : Nat × Bool) (u : FrameMode) (hr : RdAt w rb bv bs p) (hp : p.2 = true) (cs : Array Value) (hcs : cs.size = 6) (hi : w.heap[ib]? = some (.cells cs 42 (0, 0)))
    (tv fa : Int) (ht : w.heap[tb]? = some (.cells #[.int .i64 tv] 3 (0, 0))) (hf : w.heap[fb]? = some (.cells #[.int .i64 0, .int .i64 fa] 49 (0, 0))) :
    CallsD Try.prog 42 #[.pointer (some ⟨rb, 0, none⟩), .pointer (some ⟨ib, 0, none⟩), .pointer (some ⟨tb, 0, none⟩), .pointer (some ⟨fb, 0, none⟩)] u w fun e u' w' => u' = u ∧ (e = .returned (.tuple #[]) ∧ Told w w' ib tb fb zeroIns 0 4 bs.length) := by
  have n1 := elem_ne hi ht (by decide)
  have n2 := elem_ne hi hf (by decide)
  have n3 := elem_ne ht hf (by decide)
  obtain ⟨va, vc, rfl⟩ := hr.bytes.shape
  have c0 : w.cell? ⟨fb, 0, none⟩ = some (.int .i64 0) := cell_of_heap hf rfl
  have d0 : w.cell? ⟨rb, 0, none⟩ = some (.slice va bs.length vc) := cell_of_heap hr.obj rfl
  have d2 : w.cell? ⟨rb, 2, none⟩ = some (.bool true) := by rw [← hp]; exact cell_of_heap hr.obj rfl
  have r0 := fr_setRow (g := fb) (cs := #[.int .i64 4, .int .i64 bs.length]) (Fr.refl (only [fb]) w) (.inl (by simp))
  have k1 := r0.heap hi (by simpa using n2)
  have k2 := r0.heap ht (by simpa using n3)
  have k3 := setRow_heap w fb _ #[.int .i64 4, .int .i64 bs.length] _ _ hf
  have HR0 := Lib.hid r0
  have K1 := Lib.hid k1
  have HF := Lib.hid hf
  have g0 : (w.setRow fb #[.int .i64 4, .int .i64 bs.length]).cell? ⟨fb, 0, none⟩ = some (.int .i64 4) := cell_of_heap k3 rfl
  have HW2 : Hid (∀ w2, (w.setRow fb #[.int .i64 4, .int .i64 bs.length]) = w2 → w2 = (w.setRow fb #[.int .i64 4, .int .i64 bs.length])) := Lib.hid (fun w2 h => h.symm)
  have r1 := fr_setRow (g := ib) (cs := zeroIns) (Fr.refl (only [ib]) (w.setRow fb #[.int .i64 4, .int .i64 bs.length])) (.inl (by simp))
  have h1 := setRow_heap _ ib cs zeroIns _ _ k1
  have h2 := r1.heap k2 (by simpa using fun e => n1 e.symm)
  have h3 := r1.heap k3 (by simpa using fun e => n2 e.symm)
  have HR1 := Lib.hid r1
  have H1 := Lib.hid h1
  have H2 := Lib.hid h2
  have H3 := Lib.hid h3
  have HCS := Lib.hid hcs
  have N1 := Lib.hid n1
  have N3 := Lib.hid n3
  have t0 : ((w.setRow fb #[.int .i64 4, .int .i64 bs.length]).setRow ib zeroIns).cell? ⟨tb, 0, none⟩ = some (.int .i64 tv) := cell_of_heap h2 rfl
  have t1 : ((w.setRow fb #[.int .i64 4, .int .i64 bs.length]).setRow ib zeroIns).frozen? ⟨tb, 0, none⟩ = false := frozen_of_heap h2
  clear hr hi ht hf n1 n2 n3 r1 h1 h2 h3 hcs r0 k1 k2 k3 hp
  go_enter_d Try.func42, Try.ntmps42
  go_wp2_with (first
    | (refine wpList_store_row rfl 49 (.tmp 26) (.tmp 25) rfl fb #[.int .i64 4, .int .i64 bs.length] rfl rfl _ _ HF.out (by rw [Try.infoFault]; rfl) rfl (by simp [Value.oneCell']) ?_; rw [act_put_none])
    | (refine wpList_store_row rfl 42 (.tmp 35) (.tmp 34) rfl ib zeroIns rfl rfl _ _ K1.out (by rw [Try.infoIns]; rfl) (by rw [HCS.out]; rfl) (by simp [zeroIns, Value.oneCell']) ?_; rw [act_put_none]))
  go_end0
  have r2 : Fr (only [tb]) ((w.setRow fb #[.int .i64 4, .int .i64 bs.length]).setRow ib zeroIns) (((w.setRow fb #[.int .i64 4, .int .i64 bs.length]).setRow ib zeroIns).setCell ⟨tb, 0, none⟩ (.int .i64 0)) := (Fr.refl _ _).setCell _ _ (.inl (by simp))
  exact ⟨rfl, r2.heap H1.out (by simpa using N1.out), heap_setCell H2.out, r2.heap H3.out (by simpa using fun e => N3.out e.symm),
    ((HR0.out.mono (fun k hk _ => by simp at hk; simp [hk])).trans (HR1.out.mono (fun k hk _ => by simp at hk; simp [hk]))).trans (r2.mono (fun k hk _ => by simp at hk; simp [hk]))⟩

set_option maxHeartbeats 4000000 in
/-- all is well -/
theorem tell_fine (w : World) (rb ib tb fb : Nat) (bv : Value) (bs : List Nat) (p : Nat × Bool) (u : FrameMode) (hr : RdAt w rb bv bs p) (hp : p.2 = false) (cs : Array Value) (hi : w.heap[ib]? = some (.cells cs 42 (0, 0)))
    (tv fa : Int) (ht : w.heap[tb]? = some (.cells #[.int .i64 tv] 3 (0, 0))) (hf : w.heap[fb]? = some (.cells #[.int .i64 0, .int .i64 fa] 49 (0, 0))) :
    CallsD Try.prog 42 #[.pointer (some ⟨rb, 0, none⟩), .pointer (some ⟨ib, 0, none⟩), .pointer (some ⟨tb, 0, none⟩), .pointer (some ⟨fb, 0, none⟩)] u w fun e u' w' => u' = u ∧ (e = .returned (.tuple #[]) ∧ Told w w' ib tb fb cs tv 0 fa) := by
  have c0 : w.cell? ⟨fb, 0, none⟩ = some (.int .i64 0) := cell_of_heap hf rfl
  have d2 : w.cell? ⟨rb, 2, none⟩ = some (.bool false) := by rw [← hp]; exact cell_of_heap hr.obj rfl
  have HT := Lib.hid (show Told w w ib tb fb cs tv 0 fa from ⟨hi, ht, hf, Fr.refl _ _⟩)
  clear hr hi ht hf hp
  go_enter_d Try.func42, Try.ntmps42
  go_wp2_with fail
  go_end0
  exact ⟨rfl, HT.out⟩

end Go.Proofs.Ytgofiaodncemiaa

namespace Go.Proofs.Ytgofiaodncemiaa
open Go.RowKit

attribute [local go_sem] Program.isFuncB Program.isSliceB

variable {w w' w'' w0 : World}

/-! ### which instruction bytes are -/
def sgn (x : Nat) : Int := if x < 9223372036854775808 then (x : Int) else (x : Int) - 18446744073709551616
theorem wrap_sgn (x : Nat) (h : x < 18446744073709551616) : IntKind.i64.wrap (x : Int) = sgn x := by
  rw [IntKind.wrap_i64]; unfold sgn; split <;> omega
theorem sgn_small (x : Nat) (h : x < 256) : sgn x = x := by unfold sgn; rw [if_pos (by omega)]
structure GS where
  A : Int
  B : Int
  C : Int
  N : Int
  k : Nat
  many : Nat
  p : Nat × Bool
def GS.put (g : GS) (c : UInt8) (z : Int) (p : Nat × Bool) : GS :=
  if regB c.toNat = true then (match g.k with
    | 0 => { g with A := z, k := 1, p := p }
    | 1 => { g with B := z, k := 2, p := p }
    | _ => { g with C := z, k := g.k + 1, p := p })
  else { g with N := z, p := p }
def stepG (bs : List Nat) (g : GS) (c : UInt8) : GS :=
  if c = 108 then { g with many := (takeR bs 1 g.p).1, p := (takeR bs 1 g.p).2 }
  else g.put c (sgn (takeR bs (widthOf c.toNat) g.p).1) (takeR bs (widthOf c.toNat) g.p).2
def startG (p : Nat × Bool) : GS := ⟨0, 0, 0, 0, 0, 0, p⟩
def runG (bs : List Nat) (p : Nat × Bool) (s : List UInt8) : GS := s.foldl (stepG bs) (startG p)
theorem runG_snoc (bs : List Nat) (p : Nat × Bool) (s : List UInt8) (c : UInt8) : runG bs p (s ++ [c]) = stepG bs (runG bs p s) c := by simp [runG]
def argsR (bs : List Nat) : Nat → Nat × Bool → List Int × (Nat × Bool)
  | 0, p => ([], p)
  | n + 1, p => ((argsR bs n p).1 ++ [((takeR bs 1 (argsR bs n p).2).1 : Int)], (takeR bs 1 (argsR bs n p).2).2)
theorem argsR_len (bs : List Nat) : ∀ (n : Nat) (p : Nat × Bool), (argsR bs n p).1.length = n
  | 0, _ => rfl
  | n + 1, p => by simp [argsR, argsR_len bs n p]

structure Gt where
  ix : Ix
  next : Int
  er : Int
  fa : Int
def failG (er fa : Int) : Gt := ⟨⟨0, 0, 0, 0, 0, []⟩, 0, er, fa⟩
def getR (bs : List Nat) (at' : Int) : Gt :=
  if at' < 0 ∨ (bs.length : Int) < at' then failG 2 0
  else if (takeR bs 1 (at'.toNat, false)).2.2 = true then failG 4 bs.length
  else if 33 ≤ (takeR bs 1 (at'.toNat, false)).1 then failG 16 at'
  else
    let o := (takeR bs 1 (at'.toNat, false)).1
    let g := runG bs (takeR bs 1 (at'.toNat, false)).2 (sh o)
    if g.p.2 = true then failG 4 bs.length
    else if 8 < g.many then failG 3 at'
    else if (argsR bs g.many g.p).2.2 = true then failG 4 bs.length
    else if checkOf o g.A g.B g.C g.N (argsR bs g.many g.p).1 64 4096 ≠ 0 then failG 5 at'
    else ⟨⟨o, g.A, g.B, g.C, g.N, (argsR bs g.many g.p).1⟩, (argsR bs g.many g.p).2.1, 0, 0⟩

theorem takeR_small (bs : List Nat) (p : Nat × Bool) (hb : ∀ b ∈ bs, b < 256) : (takeR bs 1 p).1 < 256 := by
  unfold takeR
  split
  · exact Nat.zero_lt_succ _
  · have := unle_lt ((bs.drop p.1).take 1) (fun b hb' => hb b (List.mem_of_mem_drop (List.mem_of_mem_take hb')))
    have h2 : 256 ^ ((bs.drop p.1).take 1).length ≤ 256 ^ 1 := Nat.pow_le_pow_right (by decide) (by simp; omega)
    show unle _ < 256
    omega
theorem takeR_lt (bs : List Nat) (n : Nat) (p : Nat × Bool) (hb : ∀ b ∈ bs, b < 256) (hn : n ≤ 8) : (takeR bs n p).1 < 18446744073709551616 := by
  unfold takeR
  split
  · exact Nat.zero_lt_succ _
  · have := unle_lt ((bs.drop p.1).take n) (fun b hb' => hb b (List.mem_of_mem_drop (List.mem_of_mem_take hb')))
    have h2 : 256 ^ ((bs.drop p.1).take n).length ≤ 256 ^ 8 := Nat.pow_le_pow_right (by decide) (by simp; omega)
    show unle _ < _
    omega

theorem results_get {P : Program} {fn : Func} {tmps : Array Value} {w : World} {d1 d2 d3 : Tmp} {t1 t2 t3 : TypeId} {a1 a2 a3 : Addr} {v1 v2 v3 : Value} (hr : fn.results = #[.cell d1 t1, .cell d2 t2, .cell d3 t3])
    (h1 : tmps.getD d1 undef = .pointer (some a1)) (h2 : tmps.getD d2 undef = .pointer (some a2)) (h3 : tmps.getD d3 undef = .pointer (some a3))
    (l1 : (loadVar t1 a1).run P w = .ok v1 w) (l2 : (loadVar t2 a2).run P w = .ok v2 w) (l3 : (loadVar t3 a3).run P w = .ok v3 w) : (results fn tmps).run P w = .ok (.tuple #[v1, v2, v3]) w := by
  have h1' : tmps[d1]?.getD undef = .pointer (some a1) := by rw [← h1]; simp [Array.getD_eq_getD_getElem?]
  have h2' : tmps[d2]?.getD undef = .pointer (some a2) := by rw [← h2]; simp [Array.getD_eq_getD_getElem?]
  have h3' : tmps[d3]?.getD undef = .pointer (some a3) := by rw [← h3]; simp [Array.getD_eq_getD_getElem?]
  simp only [results, hr]
  simp [h1', h2', h3', asAddr, l1, l2, l3]

theorem load_int (w : World) (b : Nat) (z : Int) (h : w.heap[b]? = some (.cells #[.int .i64 z] 3 (0, 0))) : (loadVar 3 ⟨b, 0, none⟩).run Try.prog w = .ok (.int .i64 z) w := by
  have hc : w.cell? ⟨b, 0, none⟩ = some (.int .i64 z) := cell_of_heap h rfl
  simp [loadVar, go_sem, hc]

end Go.Proofs.Ytgofiaodncemiaa

namespace Go.Proofs.Ytgofiaodncemiaa
open Go.RowKit

attribute [local go_sem] Program.isFuncB Program.isSliceB

variable {w w' w'' w0 : World}

/-- what Get is handed -/
structure Bytes (w : World) (bv : Value) (bs : List Nat) : Prop where
  reads : Reads w bv 1 bs.length (u8s bs)
  small : ∀ b ∈ bs, b < 256
  len : bs.length ≤ 100000
  old : ∀ k, bv.ownBlock = some k → k < w.heap.size

/-- Get's worlds: its three results' cells, and what else is new -/
structure GW (w wr : World) (cs : Array Value) (tv er fa : Int) : Prop where
  ins : wr.heap[w.heap.size]? = some (.cells cs 42 (0, 0))
  to_ : wr.heap[w.heap.size + 1]? = some (.cells #[.int .i64 tv] 3 (0, 0))
  fault : wr.heap[w.heap.size + 2]? = some (.cells #[.int .i64 er, .int .i64 fa] 49 (0, 0))
  fr : Fr no w wr
theorem GW.fr' {wr wr' : World} {cs : Array Value} {tv er fa : Int} (h : GW w wr cs tv er fa) (r : Fr (only [w.heap.size + 3]) wr wr') : GW w wr' cs tv er fa :=
  ⟨r.heap h.ins (by simp), r.heap h.to_ (by simp), r.heap h.fault (by simp), h.fr.trans' r (fun k hk _ => by simp at hk; omega)⟩
theorem GW.to {wr wr' : World} {cs : Array Value} {tv er fa : Int} (h : GW w wr cs tv er fa) (r : Fr no wr wr') : GW w wr' cs tv er fa :=
  ⟨r.heap h.ins (by simp), r.heap h.to_ (by simp), r.heap h.fault (by simp), h.fr.trans r⟩

theorem GW.start (w : World) (cs : Array Value) (tv er fa : Int) : GW w (((w.alloc (.cells cs 42)).alloc (.cells #[.int .i64 tv] 3)).alloc (.cells #[.int .i64 er, .int .i64 fa] 49)) cs tv er fa := by
  have r := (Fr.refl no ((w.alloc (.cells cs 42)).alloc (.cells #[.int .i64 tv] 3))).alloc (.cells #[.int .i64 er, .int .i64 fa] 49)
  refine ⟨r.heap (heap_new2 w _ _) (by simp), r.heap (heap_new2' w _ _) (by simp), ?_, (((Fr.refl no w).alloc _).alloc _).alloc _⟩
  have := heap_new ((w.alloc (.cells cs 42)).alloc (.cells #[.int .i64 tv] 3)) (.cells #[.int .i64 er, .int .i64 fa] 49)
  simp only [World.size_alloc] at this
  exact this

/-- what Get's result reads as -/
theorem GW.result {wr : World} {cs : Array Value} {tv er fa : Int} (h : GW w wr cs tv er fa) (hcs : cs.size = 6) {tmps : Array Value} (h1 : tmps.getD 4 undef = .pointer (some ⟨w.heap.size, 0, none⟩)) (h2 : tmps.getD 5 undef = .pointer (some ⟨w.heap.size + 1, 0, none⟩))
    (h3 : tmps.getD 6 undef = .pointer (some ⟨w.heap.size + 2, 0, none⟩)) : (results Try.f29 tmps).run Try.prog wr = .ok (.tuple #[.agg cs, .int .i64 tv, .agg #[.int .i64 er, .int .i64 fa]]) wr :=
  results_get rfl h1 h2 h3 (run_loadVar_row wr _ _ _ cs (0, 0) _ h.ins Try.underlying42 rfl (by rw [Try.infoIns, hcs])) (load_int wr _ tv h.to_)
    (run_loadVar_row wr _ _ _ _ (0, 0) _ h.fault Try.underlying49 rfl (by rw [Try.infoFault]; rfl))

set_option maxRecDepth 100000 in
set_option maxHeartbeats 8000000 in
theorem get_out (w : World) (bv : Value) (bs : List Nat) (at' : Int) (hb : Bytes w bv bs) (h : at' < 0 ∨ (bs.length : Int) < at') :
    Calls Try.prog 29 #[bv, .int .i64 at'] w fun e w' => e = .returned (.tuple #[insV 0 0 0 0 0 (.slice none 0 0), .int .i64 0, .agg #[.int .i64 2, .int .i64 0]]) ∧ Fr no w w' := by
  obtain ⟨ba, bc, rfl⟩ := hb.reads.shape
  have hcs : at' < 0 ∨ (¬ at' < 0 ∧ (bs.length : Int) < at') := by omega
  clear h
  unfold insV
  rcases hcs with h1 | ⟨h1, h2⟩
  · go_enter_defers Try.func29, Try.ntmps29
    go_wp2_with fail
    have G := GW.start w zeroIns 0 2 0
    exact ⟨_, G.result rfl rfl rfl rfl, rfl, G.fr⟩
  · go_enter_defers Try.func29, Try.ntmps29
    go_wp2_with fail
    have G := GW.start w zeroIns 0 2 0
    exact ⟨_, G.result rfl rfl rfl rfl, rfl, G.fr⟩

end Go.Proofs.Ytgofiaodncemiaa

namespace Go.Proofs.Ytgofiaodncemiaa
open Go.RowKit

attribute [local go_sem] Program.isFuncB Program.isSliceB

variable {w w' w'' w0 : World}

def insC (o : Nat) (g : GS) (u : Value) : Array Value := #[.int .i64 o, .int .i64 g.A, .int .i64 g.B, .int .i64 g.C, .int .i64 g.N, u]
theorem put_cells (o : Nat) (g : GS) (c : UInt8) (z : Int) (p : Nat × Bool) (u : Value) (hk : g.k < 3) : (insC o g u).setIfInBounds (placeI c.toNat g.k) (.int .i64 z) = insC o (g.put c z p) u := by
  unfold placeI GS.put
  cases regB c.toNat with
  | false => rfl
  | true =>
    obtain ⟨A, B, C, N, k, many, q⟩ := g
    dsimp only at hk ⊢
    obtain rfl | rfl | rfl : k = 0 ∨ k = 1 ∨ k = 2 := by omega
    all_goals rfl
theorem put_k (g : GS) (c : UInt8) (z : Int) (p : Nat × Bool) : (g.put c z p).k = (if regB c.toNat = true then g.k + 1 else g.k) ∧ (g.put c z p).p = p ∧ (g.put c z p).many = g.many := by
  unfold GS.put
  cases regB c.toNat with
  | false => exact ⟨rfl, rfl, rfl⟩
  | true =>
    obtain ⟨A, B, C, N, k, many, q⟩ := g
    match k with
    | 0 => exact ⟨rfl, rfl, rfl⟩
    | 1 => exact ⟨rfl, rfl, rfl⟩
    | k + 2 => exact ⟨rfl, rfl, rfl⟩
theorem stepG_k (bs : List Nat) (g : GS) (c : UInt8) (hb : ∀ b ∈ bs, b < 256) : (stepG bs g c).k ≤ g.k + 1 ∧ (g.many < 256 → (stepG bs g c).many < 256) := by
  unfold stepG
  split
  · exact ⟨by simp, fun _ => takeR_small bs g.p hb⟩
  · rw [(put_k _ _ _ _).1, (put_k _ _ _ _).2.2]
    refine ⟨?_, id⟩
    split <;> omega
theorem runG_k (bs : List Nat) (p : Nat × Bool) (hb : ∀ b ∈ bs, b < 256) : ∀ (n : Nat) (s : List UInt8), s.length = n → (runG bs p s).k ≤ n ∧ (runG bs p s).many < 256
  | 0, s, h => by rw [List.length_eq_zero_iff.1 h]; exact ⟨Nat.le_refl _, Nat.zero_lt_succ _⟩
  | n + 1, s, h => by
    have hne : s ≠ [] := by rintro rfl; simp at h
    rw [← List.dropLast_concat_getLast hne, runG_snoc]
    have ih := runG_k bs p hb n s.dropLast (by simp [h])
    have := stepG_k bs (runG bs p s.dropLast) (s.getLast hne) hb
    exact ⟨by omega, this.2 ih.2⟩

theorem RdAt.frx {S : Nat → Prop} {rb : Nat} {bv : Value} {bs : List Nat} {p : Nat × Bool} (h : RdAt w rb bv bs p) (r : Fr S w w') (h1 : ¬ S rb) (h2 : ∀ k, bv.ownBlock = some k → ¬ S k) : RdAt w' rb bv bs p :=
  ⟨r.heap h.obj h1, h.bytes.fr r h2, h.small, h.ne, h.len, h.at_⟩

theorem iter_ne {a b k : Nat} {s : ByteArray} {c : Array Value} {t : TypeId} (h1 : w.heap[a]? = some (.stringIter s k)) (h2 : w.heap[b]? = some (.cells c t (0, 0))) : a ≠ b := by
  rintro rfl
  rw [h1] at h2
  cases h2

/-- where Get's first loop stands -/
structure GL (w wr : World) (it : Nat) (s : ByteArray) (k o : Nat) (g : GS) (p : Nat × Bool) (bv : Value) (bs : List Nat) : Prop where
  gw : GW w wr (insC o g (.slice none 0 0)) 0 0 0
  rd : RdAt wr (w.heap.size + 3) bv bs p
  iter : wr.heap[it]? = some (.stringIter s k)
  old : ∀ k, bv.ownBlock = some k → k < w.heap.size
  lt : w.heap.size + 3 < it
section
variable {wr wr' : World} {it k o : Nat} {s : ByteArray} {g : GS} {p p' : Nat × Bool} {bv : Value} {bs : List Nat}
theorem GL.to (h : GL w wr it s k o g p bv bs) (r : Fr no wr wr') : GL w wr' it s k o g p bv bs :=
  ⟨h.gw.to r, h.rd.frx r (by simp) (by simp), r.heap h.iter (by simp), h.old, h.lt⟩
theorem GL.next (h : GL w wr it s k o g p bv bs) : GL w (wr.iterAt it s (k + 1)) it s (k + 1) o g p bv bs := by
  have r : Fr (only [it]) wr (wr.iterAt it s (k + 1)) := fr_iterAt (Fr.refl _ _) (by simp)
  have hlt := h.lt
  exact ⟨⟨r.heap h.gw.ins (by simp; omega), r.heap h.gw.to_ (by simp; omega), r.heap h.gw.fault (by simp; omega), h.gw.fr.trans' r (fun k hk _ => by simp at hk; omega)⟩,
    h.rd.frx r (by simp; omega) (fun k hk => by have := h.old k hk; simp; omega), Lib.iterAt_heap _ _ _ _ _ h.iter, h.old, hlt⟩
theorem GL.take (h : GL w wr it s k o g p bv bs) (rd : RdAt wr' (w.heap.size + 3) bv bs p') (r : Fr (only [w.heap.size + 3]) wr wr') : GL w wr' it s k o g p' bv bs :=
  ⟨h.gw.fr' r, rd, r.heap h.iter (by have := h.lt; simp; omega), h.old, h.lt⟩
theorem GL.set (h : GL w wr it s k o g p bv bs) (c : UInt8) (z : Int) (q : Nat × Bool) (hk : g.k < 3) : GL w (wr.setCell ⟨w.heap.size, placeI c.toNat g.k, none⟩ (.int .i64 z)) it s k o (g.put c z q) p bv bs := by
  have r : Fr (only [w.heap.size]) wr (wr.setCell ⟨w.heap.size, placeI c.toNat g.k, none⟩ (.int .i64 z)) := (Fr.refl _ _).setCell _ _ (.inl (by simp))
  have hlt := h.lt
  refine ⟨⟨?_, r.heap h.gw.to_ (by simp), r.heap h.gw.fault (by simp), h.gw.fr.trans' r (fun k hk _ => by simp at hk; omega)⟩, h.rd.frx r (by simp) (fun k hk => by have := h.old k hk; simp; omega), r.heap h.iter (by simp; omega), h.old, hlt⟩
  rw [← put_cells o g c z q _ hk]
  exact heap_setCell h.gw.ins
end

/-- what Get hands back -/
def resV (t : Gt) (u : Value) : Value := .tuple #[.agg #[.int .i64 t.ix.o, .int .i64 t.ix.A, .int .i64 t.ix.B, .int .i64 t.ix.C, .int .i64 t.ix.N, u], .int .i64 t.next, .agg #[.int .i64 t.er, .int .i64 t.fa]]
def GotR (w : World) (t : Gt) (e : Ending) (w' : World) : Prop := ∃ u, e = .returned (resV t u) ∧ w'.ownsRow w.heap.size 3 1 u t.ix.l.length (ints t.ix.l) ∧ Fr no w w'
theorem got_fail (w w' : World) (er fa : Int) (h : Fr no w w') : GotR w (failG er fa) (.returned (.tuple #[.agg zeroIns, .int .i64 0, .agg #[.int .i64 er, .int .i64 fa]])) w' :=
  ⟨.slice none 0 0, rfl, World.ownsRow_nil _ _ _ _, h⟩

end Go.Proofs.Ytgofiaodncemiaa

namespace Go.Proofs.Ytgofiaodncemiaa
open Go.RowKit

attribute [local go_sem] Program.isFuncB Program.isSliceB

variable {w w' w'' w0 : World}

theorem GW.told {wr wr' : World} {cs cs' : Array Value} {tv er fa tv' er' fa' : Int} (h : GW w wr cs tv er fa) (t : Told wr wr' w.heap.size (w.heap.size + 1) (w.heap.size + 2) cs' tv' er' fa') : GW w wr' cs' tv' er' fa' :=
  ⟨t.ins, t.to_, t.fault, h.fr.trans' t.fr (fun k hk _ => by simp at hk; omega)⟩

theorem GW.setFault {wr : World} {cs : Array Value} {tv er fa : Int} (h : GW w wr cs tv er fa) (er' fa' : Int) : GW w (wr.setRow (w.heap.size + 2) #[.int .i64 er', .int .i64 fa']) cs tv er' fa' := by
  have r := fr_setRow (g := w.heap.size + 2) (cs := #[.int .i64 er', .int .i64 fa']) (Fr.refl (only [w.heap.size + 2]) wr) (.inl (by simp))
  exact ⟨r.heap h.ins (by simp), r.heap h.to_ (by simp), setRow_heap _ _ _ _ _ _ h.fault, h.fr.trans' r (fun k hk _ => by simp at hk; omega)⟩
theorem RdAt.setFault {wr : World} {bv : Value} {bs : List Nat} {p : Nat × Bool} (h : RdAt wr (w.heap.size + 3) bv bs p) (ho : ∀ k, bv.ownBlock = some k → k < w.heap.size) (cs : Array Value) : RdAt (wr.setRow (w.heap.size + 2) cs) (w.heap.size + 3) bv bs p :=
  h.frx (fr_setRow (g := w.heap.size + 2) (cs := cs) (Fr.refl (only [w.heap.size + 2]) wr) (.inl (by simp))) (by simp) (fun k hk => by have := ho k hk; simp; omega)

/-- where Get's second loop stands -/
structure GA (w wr : World) (o : Nat) (g : GS) (av : Value) (l : List Int) (p : Nat × Bool) (bv : Value) (bs : List Nat) : Prop where
  gw : GW w wr (insC o g av) 0 0 0
  rd : RdAt wr (w.heap.size + 3) bv bs p
  own : wr.ownsRow (w.heap.size + 4) 3 1 av l.length (ints l)
theorem GW.setTo {wr : World} {cs : Array Value} {tv er fa : Int} (h : GW w wr cs tv er fa) (tv' : Int) : GW w (wr.setCell ⟨w.heap.size + 1, 0, none⟩ (.int .i64 tv')) cs tv' er fa := by
  have r : Fr (only [w.heap.size + 1]) wr (wr.setCell ⟨w.heap.size + 1, 0, none⟩ (.int .i64 tv')) := (Fr.refl _ _).setCell _ _ (.inl (by simp))
  exact ⟨r.heap h.ins (by simp), heap_setCell h.to_, r.heap h.fault (by simp), h.fr.trans' r (fun k hk _ => by simp at hk; omega)⟩
theorem RdAt.setTo {wr : World} {bv : Value} {bs : List Nat} {p : Nat × Bool} (h : RdAt wr (w.heap.size + 3) bv bs p) (ho : ∀ k, bv.ownBlock = some k → k < w.heap.size) (tv : Int) : RdAt (wr.setCell ⟨w.heap.size + 1, 0, none⟩ (.int .i64 tv)) (w.heap.size + 3) bv bs p :=
  h.frx ((Fr.refl (only [w.heap.size + 1]) wr).setCell _ _ (.inl (by simp))) (by simp) (fun k hk => by have := ho k hk; simp; omega)

set_option maxRecDepth 100000 in
set_option maxHeartbeats 16000000 in
theorem get_in (w : World) (bv : Value) (bs : List Nat) (at' : Nat) (hb : Bytes w bv bs) (hat : at' ≤ bs.length) :
    Calls Try.prog 29 #[bv, .int .i64 at'] w (GotR w (getR bs at')) := by
  obtain ⟨ba, bc, rfl⟩ := hb.reads.shape
  have r3 := ((((Fr.refl no w).alloc (.cells zeroIns 42)).alloc (.cells #[.int .i64 0] 3)).alloc (.cells #[.int .i64 0, .int .i64 0] 49))
  have G3 := GW.start w zeroIns 0 0 0
  have r4 := (Fr.refl no (((w.alloc (.cells zeroIns 42)).alloc (.cells #[.int .i64 0] 3)).alloc (.cells #[.int .i64 0, .int .i64 0] 49))).alloc (.cells #[.slice ba bs.length bc, .int .i64 at', .bool false] 82)
  have HG4 := Lib.hid (G3.to r4)
  have HRD4 : Hid (RdAt ((((w.alloc (.cells zeroIns 42)).alloc (.cells #[.int .i64 0] 3)).alloc (.cells #[.int .i64 0, .int .i64 0] 49)).alloc (.cells #[.slice ba bs.length bc, .int .i64 at', .bool false] 82)) (w.heap.size + 3) (.slice ba bs.length bc) bs (at', false)) := Lib.hid ⟨by
      have := heap_new (((w.alloc (.cells zeroIns 42)).alloc (.cells #[.int .i64 0] 3)).alloc (.cells #[.int .i64 0, .int .i64 0] 49)) (.cells #[.slice ba bs.length bc, .int .i64 at', .bool false] 82)
      simp only [World.size_alloc] at this
      exact this, (hb.reads.fr r3 (by simp)).fr r4 (by simp), hb.small, fun k hk => by have := hb.old k hk; omega, hb.len, hat⟩
  have HOLD := Lib.hid hb.old
  have HSM := Lib.hid hb.small
  have hln := hb.len
  have hGR : getR bs at' = if (takeR bs 1 (at', false)).2.2 = true then failG 4 bs.length
      else if 33 ≤ (takeR bs 1 (at', false)).1 then failG 16 at'
      else if (runG bs (takeR bs 1 (at', false)).2 (sh (takeR bs 1 (at', false)).1)).p.2 = true then failG 4 bs.length
      else if 8 < (runG bs (takeR bs 1 (at', false)).2 (sh (takeR bs 1 (at', false)).1)).many then failG 3 at'
      else if (argsR bs (runG bs (takeR bs 1 (at', false)).2 (sh (takeR bs 1 (at', false)).1)).many (runG bs (takeR bs 1 (at', false)).2 (sh (takeR bs 1 (at', false)).1)).p).2.2 = true then failG 4 bs.length
      else if checkOf (takeR bs 1 (at', false)).1 (runG bs (takeR bs 1 (at', false)).2 (sh (takeR bs 1 (at', false)).1)).A (runG bs (takeR bs 1 (at', false)).2 (sh (takeR bs 1 (at', false)).1)).B (runG bs (takeR bs 1 (at', false)).2 (sh (takeR bs 1 (at', false)).1)).C (runG bs (takeR bs 1 (at', false)).2 (sh (takeR bs 1 (at', false)).1)).N (argsR bs (runG bs (takeR bs 1 (at', false)).2 (sh (takeR bs 1 (at', false)).1)).many (runG bs (takeR bs 1 (at', false)).2 (sh (takeR bs 1 (at', false)).1)).p).1 64 4096 ≠ 0 then failG 5 at'
      else ⟨⟨(takeR bs 1 (at', false)).1, (runG bs (takeR bs 1 (at', false)).2 (sh (takeR bs 1 (at', false)).1)).A, (runG bs (takeR bs 1 (at', false)).2 (sh (takeR bs 1 (at', false)).1)).B, (runG bs (takeR bs 1 (at', false)).2 (sh (takeR bs 1 (at', false)).1)).C, (runG bs (takeR bs 1 (at', false)).2 (sh (takeR bs 1 (at', false)).1)).N, (argsR bs (runG bs (takeR bs 1 (at', false)).2 (sh (takeR bs 1 (at', false)).1)).many (runG bs (takeR bs 1 (at', false)).2 (sh (takeR bs 1 (at', false)).1)).p).1⟩, (argsR bs (runG bs (takeR bs 1 (at', false)).2 (sh (takeR bs 1 (at', false)).1)).many (runG bs (takeR bs 1 (at', false)).2 (sh (takeR bs 1 (at', false)).1)).p).2.1, 0, 0⟩ := by
    unfold getR
    rw [if_neg (by omega)]
    rw [Int.toNat_natCast]
  have HTK := Lib.hid (take_ok _ (w.heap.size + 3) _ bs (at', false) 1 HRD4.out (.inl rfl))
  have hx0 := takeR_small bs (at', false) hb.small
  generalize takeR bs 1 (at', false) = t0 at *
  obtain ⟨x0, p0⟩ := t0
  dsimp only at hGR hx0 HTK
  obtain ⟨G, hG⟩ : ∃ G, G = runG bs p0 (sh x0) := ⟨_, rfl⟩
  rw [← hG] at hGR
  obtain ⟨AR, hAR⟩ : ∃ AR, AR = argsR bs G.many G.p := ⟨_, rfl⟩
  rw [← hAR] at hGR
  have HGE := Lib.hid hG
  have HAE := Lib.hid hAR
  have HGK := Lib.hid (runG_k bs p0 hb.small)
  clear hG hAR
  generalize getR bs at' = RES at *
  have HGR := Lib.hid hGR
  clear hGR hb r3 G3 r4
  have hat1 : ¬ (at' : Int) < 0 := by omega
  have hat2 : ¬ (bs.length : Int) < at' := by omega
  have hw0 : IntKind.i64.wrap (x0 : Int) = x0 := by rw [IntKind.wrap_i64]; omega
  unfold zeroIns at *
  go_enter_defers Try.func29, Try.ntmps29
  go_wp2_with fail
  refine HTK.out.mono ?_
  rintro e w5 ⟨rfl, rd5, r5⟩
  have g5 := HG4.out.fr' r5
  have c0 : w5.cell? ⟨w.heap.size, 0, none⟩ = some (.int .i64 0) := cell_of_heap g5.ins rfl
  have f0 : w5.frozen? ⟨w.heap.size, 0, none⟩ = false := frozen_of_heap g5.ins
  go_upto_region 6 with (fail)
  have r6 : Fr (only [w.heap.size]) w5 (w5.setCell ⟨w.heap.size, 0, none⟩ (.int .i64 x0)) := (Fr.refl _ _).setCell _ _ (.inl (by simp))
  have HG6 : Hid (GW w (w5.setCell ⟨w.heap.size, 0, none⟩ (.int .i64 x0)) (insC x0 (startG p0) (.slice none 0 0)) 0 0 0) := Lib.hid ⟨heap_setCell g5.ins, r6.heap g5.to_ (by simp), r6.heap g5.fault (by simp), g5.fr.trans' r6 (fun k hk _ => by simp at hk; omega)⟩
  have HRD6 := Lib.hid (rd5.frx r6 (by simp) (fun k hk => by have := HOLD.out k hk; simp; omega))
  clear rd5 r5 g5 c0 f0 r6
  generalize w5.setCell ⟨w.heap.size, 0, none⟩ (.int .i64 x0) = w6 at *
  have HD : Hid (∀ wz, GW w wz (insC x0 (startG p0) (.slice none 0 0)) 0 0 0 → RdAt wz (w.heap.size + 3) (.slice ba bs.length bc) bs p0 → True) := Lib.hid (fun _ _ _ => trivial)
  have d2 : w6.cell? ⟨w.heap.size + 1 + 1 + 1, 2, none⟩ = some (.bool p0.2) := cell_of_heap HRD6.out.obj rfl
  have d0 : w6.cell? ⟨w.heap.size, 0, none⟩ = some (.int .i64 x0) := cell_of_heap HG6.out.ins rfl
  cases hp0 : p0.2 with
  | true =>
    have HRE : Hid (RES = failG 4 bs.length) := Lib.hid (by rw [HGR.out, if_pos hp0])
    rw [hp0] at d2
    have HP0 := Lib.hid hp0
    clear hp0
    go_wp2_with fail
    refine leaves_cons (f := 42) (args := #[.pointer (some ⟨w.heap.size + 3, 0, none⟩), .pointer (some ⟨w.heap.size, 0, none⟩), .pointer (some ⟨w.heap.size + 1, 0, none⟩), .pointer (some ⟨w.heap.size + 2, 0, none⟩)]) (by simp) (by simp [go_sem]) ?_
    refine (tell_short w6 _ _ _ _ _ bs p0 _ HRD6.out HP0.out _ rfl HG6.out.ins 0 0 HG6.out.to_ HG6.out.fault).mono ?_
    rintro e u' w7 ⟨rfl, rfl, told⟩
    have g7 := HG6.out.told told
    exact ⟨_, g7.result rfl rfl rfl rfl, by rw [HRE.out]; exact got_fail w w7 4 bs.length g7.fr⟩
  | false =>
  rw [hp0] at d2
  have HP0 := Lib.hid hp0
  clear hp0
  by_cases h33 : 33 ≤ x0
  · have h33' : (33 : Int) ≤ x0 := by omega
    have HRE : Hid (RES = failG 16 at') := Lib.hid (by rw [HGR.out, if_neg (by rw [HP0.out]; simp), if_pos h33])
    have q0 : w6.cell? ⟨w.heap.size + 1 + 1, 0, none⟩ = some (.int .i64 0) := cell_of_heap HG6.out.fault rfl
    have q1 : w6.cell? ⟨w.heap.size + 1 + 1, 1, none⟩ = some (.int .i64 0) := cell_of_heap HG6.out.fault rfl
    go_wp2_with (refine wpList_store_row rfl 49 (.tmp 6) (.tmp 39) rfl (w.heap.size + 2) #[.int .i64 16, .int .i64 at'] rfl rfl _ _ HG6.out.fault (by rw [Try.infoFault]; rfl) rfl (by simp [Value.oneCell']) ?_; rw [act_put_none])
    have g7 := HG6.out.setFault 16 at'
    have rd7 := HRD6.out.setFault HOLD.out #[.int .i64 16, .int .i64 at']
    refine leaves_cons (f := 42) (args := #[.pointer (some ⟨w.heap.size + 3, 0, none⟩), .pointer (some ⟨w.heap.size, 0, none⟩), .pointer (some ⟨w.heap.size + 1, 0, none⟩), .pointer (some ⟨w.heap.size + 2, 0, none⟩)]) (by simp) (by simp [go_sem]) ?_
    refine (tell_err _ _ _ _ _ _ bs p0 _ rd7 _ rfl g7.ins 0 16 at' g7.to_ g7.fault (by decide)).mono ?_
    rintro e u' w7 ⟨rfl, rfl, told⟩
    have g8 := g7.told told
    exact ⟨_, g8.result rfl rfl rfl rfl, by rw [HRE.out]; exact got_fail w w7 16 at' g8.fr⟩
  have h33' : ¬ (33 : Int) ≤ x0 := by omega
  have HRE : Hid (RES = if G.p.2 = true then failG 4 bs.length else if 8 < G.many then failG 3 at' else if AR.2.2 = true then failG 4 bs.length
      else if checkOf x0 G.A G.B G.C G.N AR.1 64 4096 ≠ 0 then failG 5 at' else ⟨⟨x0, G.A, G.B, G.C, G.N, AR.1⟩, AR.2.1, 0, 0⟩) := Lib.hid (by rw [HGR.out, if_neg (by rw [HP0.out]; simp), if_neg h33])
  clear HGR
  have HSH := Lib.hid (fun w => shape_all w x0)
  have hok := shape_ok x0
  have HOK := Lib.hid hok
  have hsz := hok.size
  unfold sh at HGE
  generalize shapeI x0 = s at *
  clear hok
  go_wp2_with fail
  refine (HSH.out _).mono ?_
  rintro e w7 ⟨rfl, r7⟩
  have HG7 := Lib.hid (HG6.out.to r7)
  have HRD7 := Lib.hid (HRD6.out.frx r7 (by simp) (by simp))
  clear r7 d0 d2
  go_wp2_with fail
  have HP : Hid (GL w (w7.iter s 0) w7.heap.size s 0 x0 (runG bs p0 (s.data.toList.take 0)) (runG bs p0 (s.data.toList.take 0)).p (.slice ba bs.length bc) bs) := Lib.hid
    ⟨HG7.out.to ((Fr.refl no w7).alloc _), HRD7.out.frx ((Fr.refl no w7).alloc _) (by simp) (by simp), heap_new w7 _, HOLD.out, (Array.getElem?_eq_some_iff.1 HRD7.out.obj).1⟩
  generalize w7.iter s 0 = w8 at *
  generalize w7.heap.size = itb at *
  go_loopw [8, 9] (fun x y wr => ∃ k : Nat, k ≤ s.size ∧ x = .int .i64 ((runG bs p0 (s.data.toList.take k)).k : Nat) ∧ y = .int .i64 ((runG bs p0 (s.data.toList.take k)).many : Nat) ∧ Hid (GL w wr itb s k x0 (runG bs p0 (s.data.toList.take k)) (runG bs p0 (s.data.toList.take k)).p (.slice ba bs.length bc) bs)) (fun _ _ wr => itLeft wr itb)
  case atStart => exact ⟨0, by omega, rfl, rfl, HP⟩
  case round =>
    obtain ⟨k, hk, rfl, rfl, hps⟩ := hrel
    by_cases hks : k < s.size
    · have hnext : ∀ ty, (Instr.next (.pointer (some ⟨itb, 0, none⟩)) true ty).run Try.prog wr = .ok (.tuple #[.bool true, .int .i64 k, .int .i32 (s[k]'hks).toNat]) (wr.iterAt itb s (k + 1)) := fun ty =>
        Lib.run_next_ascii_at wr itb s k ty hps.out.iter hks (HOK.out.ascii k hks)
      have HN := Lib.hid hps.out.next
      have MK := Lib.hid hps.out.iter
      have hgk := HGK.out k (s.data.toList.take k) (blen_take s k hk)
      have HSN : Hid (runG bs p0 (s.data.toList.take (k + 1)) = stepG bs (runG bs p0 (s.data.toList.take k)) (s[k]'hks)) := Lib.hid (by rw [btake_succ s k hks, runG_snoc])
      generalize runG bs p0 (s.data.toList.take k) = g at *
      have HCI : Hid (∀ d : UInt8, ((s[k]'hks).toNat : Int) = d.toNat → s[k]'hks = d) := Lib.hid (fun d e => UInt8.toNat_inj.1 (by omega))
      clear hps
      generalize wr.iterAt itb s (k + 1) = w9 at *
      by_cases h108 : s[k]'hks = 108
      · have e108 : (((s[k]'hks).toNat : Int) == 108) = true := by rw [h108]; rfl
        have HS2 : Hid (runG bs p0 (s.data.toList.take (k + 1)) = { g with many := (takeR bs 1 g.p).1, p := (takeR bs 1 g.p).2 }) := Lib.hid (by rw [HSN.out]; unfold stepG; rw [if_pos h108])
        clear h108
        have HTK2 := Lib.hid (take_ok _ (w.heap.size + 3) _ bs g.p 1 HN.out.rd (.inl rfl))
        have hx1 := takeR_small bs g.p HSM.out
        generalize takeR bs 1 g.p = t1 at *
        obtain ⟨x1, p1⟩ := t1
        dsimp only at HTK2 HS2 hx1
        have hw1 : IntKind.i64.wrap (x1 : Int) = x1 := by rw [IntKind.wrap_i64]; omega
        go_wp2_with fail
        refine HTK2.out.mono ?_
        rintro e wa ⟨rfl, rda, ra⟩
        have HNA : Hid (GL w wa itb s (k + 1) x0 { g with many := x1, p := p1 } p1 (.slice ba bs.length bc) bs) := Lib.hid (by have h := HN.out.take rda ra; exact ⟨h.gw, h.rd, h.iter, h.old, h.lt⟩)
        clear rda ra
        go_wp2_with fail
        go_roundw
        case rel => exact ⟨k + 1, by omega, by rw [HS2.out], by rw [HS2.out], by rw [HS2.out]; exact HNA⟩
        case measure => rw [itLeft_at HNA.out.iter, itLeft_at MK.out]; omega
      · have e108 : (((s[k]'hks).toNat : Int) == 108) = false := by rw [beq_eq_false_iff_ne]; exact fun e => h108 (HCI.out 108 e)
        have HS2 : Hid (runG bs p0 (s.data.toList.take (k + 1)) = g.put (s[k]'hks) (sgn (takeR bs (widthOf (s[k]'hks).toNat) g.p).1) (takeR bs (widthOf (s[k]'hks).toNat) g.p).2) := Lib.hid (by rw [HSN.out]; unfold stepG; rw [if_neg h108])
        clear h108
        have hkk3 : g.k < 3 := by omega
        have HPL := Lib.hid (fun w1 => place_ok w1 w.heap.size (((s[k]'hks).toNat : Nat) : Int) g.k hkk3)
        have HWD := Lib.hid (fun w1 => width_ok w1 (((s[k]'hks).toNat : Nat) : Int))
        have hwn := widthOf_is (((s[k]'hks).toNat : Nat) : Int)
        have HRB : Hid (regB (((s[k]'hks).toNat : Nat) : Int) = ((((s[k]'hks).toNat : Int) == 119) || (((s[k]'hks).toNat : Int) == 114))) := Lib.hid rfl
        have HCELL : Hid (∀ wz, GL w wz itb s (k + 1) x0 g g.p (.slice ba bs.length bc) bs ∨ (∃ q, GL w wz itb s (k + 1) x0 g q (.slice ba bs.length bc) bs) → ∃ old, wz.cell? ⟨w.heap.size, placeI (((s[k]'hks).toNat : Nat) : Int) g.k, none⟩ = some (.int .i64 old) ∧ wz.frozen? ⟨w.heap.size, placeI (((s[k]'hks).toNat : Nat) : Int) g.k, none⟩ = false) := Lib.hid (fun wz h => by
          obtain ⟨q, hq⟩ : ∃ q, GL w wz itb s (k + 1) x0 g q (.slice ba bs.length bc) bs := by rcases h with h | h; exact ⟨_, h⟩; exact h
          refine ⟨fieldI g.A g.B g.C g.N (((s[k]'hks).toNat : Nat) : Int) g.k, cell_of_heap hq.gw.ins ?_, frozen_of_heap hq.gw.ins⟩
          unfold placeI fieldI insC
          cases regB (((s[k]'hks).toNat : Nat) : Int) with
          | false => rfl
          | true =>
            obtain h | h | h : g.k = 0 ∨ g.k = 1 ∨ g.k = 2 := by omega
            all_goals (rw [h]; rfl))
        have HSET := Lib.hid (fun wz q (h : GL w wz itb s (k + 1) x0 g q (.slice ba bs.length bc) bs) z q' => h.set (s[k]'hks) z q' hkk3)
        have HPK := Lib.hid (fun z q => put_k g (s[k]'hks) z q)
        have HTK2 := Lib.hid (fun wz (h : GL w wz itb s (k + 1) x0 g g.p (.slice ba bs.length bc) bs) => take_ok wz (w.heap.size + 3) _ bs g.p (widthOf (((s[k]'hks).toNat : Nat) : Int)) h.rd (by omega))
        have hxl := takeR_lt bs (widthOf (((s[k]'hks).toNat : Nat) : Int)) g.p HSM.out (by omega)
        generalize placeI (((s[k]'hks).toNat : Nat) : Int) g.k = pl at *
        generalize widthOf (((s[k]'hks).toNat : Nat) : Int) = wn at *
        generalize takeR bs wn g.p = t1 at *
        obtain ⟨x1, p1⟩ := t1
        dsimp only at HTK2 HS2 hxl
        have hw1 := wrap_sgn x1 hxl
        generalize sgn x1 = z1 at *
        clear hxl
        generalize regB (((s[k]'hks).toNat : Nat) : Int) = rb at *
        cases h119 : (((s[k]'hks).toNat : Int) == 119)
        all_goals cases h114 : (((s[k]'hks).toNat : Int) == 114)
        all_goals
          have hrb := HRB.out
          rw [h119, h114] at hrb
          simp only [Bool.or_false, Bool.or_true, Bool.or_self] at hrb
          subst hrb
          go_wp2_with fail
          refine (HPL.out _).mono ?_
          rintro e wa ⟨rfl, ra⟩
          have HNA := Lib.hid (HN.out.to ra)
          clear ra
          go_wp2_with fail
          refine (HWD.out _).mono ?_
          rintro e w' ⟨rfl, rfl⟩
          go_wp2_with fail
          refine (HTK2.out _ HNA.out).mono ?_
          rintro e wb ⟨rfl, rdb, rb⟩
          have HNB := Lib.hid (HNA.out.take rdb rb)
          obtain ⟨old, co, fo⟩ := HCELL.out wb (.inr ⟨_, HNB.out⟩)
          clear rdb rb
          go_wp2_with fail
          have HNC := Lib.hid (HSET.out wb p1 HNB.out z1 p1)
          go_roundw
          case rel => exact ⟨k + 1, by omega, by rw [HS2.out, (HPK.out _ _).1]; first | rfl | go_num, by rw [HS2.out, (HPK.out _ _).2.2], by rw [HS2.out, (HPK.out _ _).2.1]; exact HNC⟩
          case measure => rw [itLeft_at HNC.out.iter, itLeft_at MK.out]; omega
    · obtain rfl : k = s.size := by omega
      have hnext : ∀ ty, (Instr.next (.pointer (some ⟨itb, 0, none⟩)) true ty).run Try.prog wr = .ok (.tuple #[.bool false]) wr := fun ty =>
        Lib.run_next_end_at wr itb s s.size ty hps.out.iter (by omega)
      have hall : s.data.toList.take s.size = s.data.toList := by rw [← blen, List.take_length]
      rw [hall, ← HGE.out] at hps ⊢
      have hgm := (HGK.out _ _ rfl : (runG bs p0 s.data.toList).k ≤ _ ∧ (runG bs p0 s.data.toList).many < 256).2
      rw [← HGE.out] at hgm
      clear hall
      have HW := Lib.hid hps.out.gw
      have HR := Lib.hid hps.out.rd
      have d2 : wr.cell? ⟨w.heap.size + 1 + 1 + 1, 2, none⟩ = some (.bool G.p.2) := cell_of_heap HR.out.obj rfl
      cases hgp : G.p.2 with
      | true =>
        have HQ : Hid (RES = failG 4 bs.length) := Lib.hid (by rw [HRE.out, if_pos hgp])
        have HP2 := Lib.hid hgp
        rw [hgp] at d2
        clear hgp
        go_wp2_with fail
        refine leaves_cons (f := 42) (args := #[.pointer (some ⟨w.heap.size + 3, 0, none⟩), .pointer (some ⟨w.heap.size, 0, none⟩), .pointer (some ⟨w.heap.size + 1, 0, none⟩), .pointer (some ⟨w.heap.size + 2, 0, none⟩)]) (by simp) (by simp [go_sem]) ?_
        refine (tell_short wr _ _ _ _ _ bs G.p _ HR.out HP2.out _ rfl HW.out.ins 0 0 HW.out.to_ HW.out.fault).mono ?_
        rintro e u' w7 ⟨rfl, rfl, told⟩
        have g7 := HW.out.told told
        exact ⟨_, g7.result rfl rfl rfl rfl, by rw [HQ.out]; exact got_fail w w7 4 bs.length g7.fr⟩
      | false =>
        have HRE2 : Hid (RES = if 8 < G.many then failG 3 at' else if AR.2.2 = true then failG 4 bs.length
          else if checkOf x0 G.A G.B G.C G.N AR.1 64 4096 ≠ 0 then failG 5 at' else ⟨⟨x0, G.A, G.B, G.C, G.N, AR.1⟩, AR.2.1, 0, 0⟩) := Lib.hid (by rw [HRE.out, if_neg (by rw [hgp]; simp)])
        rw [hgp] at d2
        clear hgp
        by_cases h8 : 8 < G.many
        · have h8' : (8 : Int) < G.many := by omega
          have HQ : Hid (RES = failG 3 at') := Lib.hid (by rw [HRE2.out, if_pos h8])
          go_wp2_with (refine wpList_store_row rfl 49 (.tmp 6) (.tmp 76) rfl (w.heap.size + 2) #[.int .i64 3, .int .i64 at'] rfl rfl _ _ HW.out.fault (by rw [Try.infoFault]; rfl) rfl (by simp [Value.oneCell']) ?_; rw [act_put_none])
          have g7 := HW.out.setFault 3 at'
          have rd7 := HR.out.setFault HOLD.out #[.int .i64 3, .int .i64 at']
          refine leaves_cons (f := 42) (args := #[.pointer (some ⟨w.heap.size + 3, 0, none⟩), .pointer (some ⟨w.heap.size, 0, none⟩), .pointer (some ⟨w.heap.size + 1, 0, none⟩), .pointer (some ⟨w.heap.size + 2, 0, none⟩)]) (by simp) (by simp [go_sem]) ?_
          refine (tell_err _ _ _ _ _ _ bs G.p _ rd7 _ rfl g7.ins 0 3 at' g7.to_ g7.fault (by decide)).mono ?_
          rintro e u' w7 ⟨rfl, rfl, told⟩
          have g8 := g7.told told
          exact ⟨_, g8.result rfl rfl rfl rfl, by rw [HQ.out]; exact got_fail w w7 3 at' g8.fr⟩
        have h8' : ¬ (8 : Int) < G.many := by omega
        have HRE3 : Hid (RES = if AR.2.2 = true then failG 4 bs.length
          else if checkOf x0 G.A G.B G.C G.N AR.1 64 4096 ≠ 0 then failG 5 at' else ⟨⟨x0, G.A, G.B, G.C, G.N, AR.1⟩, AR.2.1, 0, 0⟩) := Lib.hid (by rw [HRE2.out, if_neg h8])
        obtain ⟨wz, hwz⟩ : ∃ x, x = wr := ⟨_, rfl⟩
        subst hwz
        have HA0 : Hid (GA w wz x0 G (.slice none 0 0) (argsR bs 0 G.p).1 (argsR bs 0 G.p).2 (.slice ba bs.length bc) bs) := Lib.hid ⟨HW.out, HR.out, World.ownsRow_nil _ _ _ _⟩
        go_wp2_with fail
        clear d2
        go_loopw [78] (fun x wr => ∃ j : Nat, j ≤ G.many ∧ x = .int .i64 j ∧ Hid (∃ av, GA w wr x0 G av (argsR bs j G.p).1 (argsR bs j G.p).2 (.slice ba bs.length bc) bs)) (fun x _ => (G.many - intOf x).toNat)
        case atStart => exact ⟨0, by omega, rfl, Lib.hid ⟨_, HA0.out⟩⟩
        case round =>
          obtain ⟨j, hj, rfl, hga⟩ := hrel
          obtain ⟨av, hga⟩ := hga.out
          obtain ⟨aa, ac, rfl⟩ := owns_shape hga.own
          have HGA := Lib.hid hga
          clear hga
          have hal := argsR_len bs j G.p
          by_cases hjm : j < G.many
          · have hjm' : (j : Int) < G.many := by omega
            have HSA : Hid (argsR bs (j + 1) G.p = ((argsR bs j G.p).1 ++ [((takeR bs 1 (argsR bs j G.p).2).1 : Int)], (takeR bs 1 (argsR bs j G.p).2).2)) := Lib.hid rfl
            generalize argsR bs j G.p = ar at *
            obtain ⟨al, ap⟩ := ar
            dsimp only at HGA HSA hal ⊢
            have hal2 : al.length ≤ 1000 := by omega
            have HAL := Lib.hid hal
            clear hal
            have rdw := HGA.out.rd.frx ((Fr.refl no wr).drew) (by simp) (by simp)
            have HTK2 := Lib.hid (take_ok _ (w.heap.size + 3) _ bs ap 1 rdw (.inl rfl))
            have hx1 := takeR_small bs ap HSM.out
            generalize takeR bs 1 ap = t1 at *
            obtain ⟨x1, p1⟩ := t1
            dsimp only at HTK2 HSA hx1
            have hw1 : IntKind.i64.wrap (x1 : Int) = x1 := by rw [IntKind.wrap_i64]; omega
            have c5 : wr.drew.cell? ⟨w.heap.size, 5, none⟩ = some (.slice aa al.length ac) := cell_of_heap (w := wr.drew) HGA.out.gw.ins rfl
            clear rdw
            go_wp2_with fail
            refine Lex.region [3, 5, 6, 8] [8, 1] (by kernel_rfl) (by kernel_rfl) ?_
            refine Lex.opens (fun w' => w'.cell? ⟨w.heap.size, 5, none⟩ = some (.slice aa al.length ac)) (c5) ?_
            repeat (first
              | (refine Lex.skips (by rfl) ?_; (try simp only [Act.put, List.setIfInBounds_toArray, List.set_cons_zero, List.set_cons_succ]))
              | (refine Lex.quiet (v := ?_) (by rfl) (by rfl) ?_ ?_; rotate_left; (focus (intro w' hS'; go_simp; try rfl)); (try simp only [Act.put, List.setIfInBounds_toArray, List.set_cons_zero, List.set_cons_succ])))
            refine Lex.loud (by rfl) (by rfl) ?_
            intro K' hK'
            go_simp
            refine HTK2.out.mono ?_
            rintro e wa ⟨rfl, rda, ra⟩
            have ca := ra.cell c5 (by simp)
            have HGWA := Lib.hid ((HGA.out.gw.to ((Fr.refl no wr).drew)).fr' ra)
            have HOA := Lib.hid (owns_fr (owns_fr HGA.out.own ((Fr.refl no wr).drew) (by simp)) ra (fun k hk => by have := (HGA.out.own.lt k hk).1; simp; omega))
            have HRDA := Lib.hid rda
            clear rda ra
            refine hK' _ _ (ca) ?_
            clear hK'
            try simp only [Act.put, List.setIfInBounds_toArray, List.set_cons_zero, List.set_cons_succ]
            repeat (first
              | (refine Lex.skips (by rfl) ?_; (try simp only [Act.put, List.setIfInBounds_toArray, List.set_cons_zero, List.set_cons_succ]))
              | (refine Lex.quiet (v := ?_) (by rfl) (by rfl) ?_ ?_; rotate_left; (focus (intro w' hS'; go_simp; try rfl)); (try simp only [Act.put, List.setIfInBounds_toArray, List.set_cons_zero, List.set_cons_succ])))
            refine Lex.loud (by rfl) (by rfl) ?_
            intro K' hK'
            go_simp
            have rb := (Fr.refl no wa).alloc (.cells #[.int .i64 x1] 3)
            have cb := rb.cell ca (by simp)
            have HGWB := Lib.hid (HGWA.out.to rb)
            have HOB := Lib.hid (owns_fr HOA.out rb (by simp))
            have HRDB := Lib.hid (HRDA.out.frx rb (by simp) (by simp))
            clear rb
            refine hK' _ _ (cb) ?_
            clear hK'
            try simp only [Act.put, List.setIfInBounds_toArray, List.set_cons_zero, List.set_cons_succ]
            refine Lex.loud (by rfl) (by rfl) ?_
            intro K' hK'
            refine wp_append_at (.tmp 81) (.tmp 85) 32 rfl (w.heap.size + 4) 3 (.int .i64 0) 1 8 Try.underlying32 Try.infoInt rfl (by decide) (.slice aa al.length ac) al.length (ints al) (by simp [Act.eval]) HOB.out 1 [.int .i64 x1] (reads_one _ _ _) int_one (by unfold maxLen; omega) (by omega) (by have := (Array.getElem?_eq_some_iff.1 HRDB.out.obj).1; omega) ?_
            intro ga gc wc ho hg hb
            have rc := (Fr.refl (fun k => (Value.slice aa al.length ac).ownBlock = some k) (wa.alloc (.cells #[.int .i64 x1] 3))).grown hg (fun k hk => .inl hk)
            have hge := fun k (hk : (Value.slice aa al.length ac).ownBlock = some k) => (HOB.out.lt k hk).1
            have HGWC : Hid (GW w wc (insC x0 G (.slice aa al.length ac)) 0 0 0) := Lib.hid ⟨rc.heap HGWB.out.ins (fun h => by have := hge _ h; omega), rc.heap HGWB.out.to_ (fun h => by have := hge _ h; omega), rc.heap HGWB.out.fault (fun h => by have := hge _ h; omega), HGWB.out.fr.trans' rc (fun k hk _ => by have := hge _ hk; omega)⟩
            have HRDC := Lib.hid (HRDB.out.frx rc (fun h => by have := hge _ h; omega) (fun k hk h => by have := hge _ h; have := HOLD.out k hk; omega))
            have HOC := Lib.hid ho
            have cc : wc.cell? ⟨w.heap.size, 5, none⟩ = some (.slice aa al.length ac) := cell_of_heap HGWC.out.ins rfl
            have fc : wc.frozen? ⟨w.heap.size, 5, none⟩ = false := frozen_of_heap HGWC.out.ins
            clear rc hge ho hg hb
            refine hK' _ _ (cc) ?_
            clear hK'
            try simp only [Act.put, List.setIfInBounds_toArray, List.set_cons_zero, List.set_cons_succ]
            repeat (first
              | (refine Lex.skips (by rfl) ?_; (try simp only [Act.put, List.setIfInBounds_toArray, List.set_cons_zero, List.set_cons_succ]))
              | (refine Lex.quiet (v := ?_) (by rfl) (by rfl) ?_ ?_; rotate_left; (focus (intro w' hS'; go_simp; try rfl)); (try simp only [Act.put, List.setIfInBounds_toArray, List.set_cons_zero, List.set_cons_succ])))
            refine Lex.done ?_
            refine Lex.opens ((fun _ => True)) (trivial) ?_
            refine Lex.loud (by rfl) (by rfl) ?_
            intro K' hK'
            go_simp
            refine hK' _ _ (trivial) ?_
            clear hK'
            try simp only [Act.put, List.setIfInBounds_toArray, List.set_cons_zero, List.set_cons_succ]
            refine Lex.done ?_
            refine Lex.ends ?_
            have rd9 : Fr (only [w.heap.size]) wc (wc.setCell ⟨w.heap.size, 5, none⟩ (.slice ga (al.length + 1) gc)) := (Fr.refl _ _).setCell _ _ (.inl (by simp))
            have HNEW : Hid (GA w (wc.setCell ⟨w.heap.size, 5, none⟩ (.slice ga (al.length + 1) gc)) x0 G (.slice ga (al.length + 1) gc) (al ++ [(x1 : Int)]) p1 (.slice ba bs.length bc) bs) := Lib.hid
              ⟨⟨heap_setCell HGWC.out.ins, rd9.heap HGWC.out.to_ (by simp), rd9.heap HGWC.out.fault (by simp), HGWC.out.fr.trans' rd9 (fun k hk _ => by simp at hk; omega)⟩, HRDC.out.frx rd9 (by simp) (fun k hk => by have := HOLD.out k hk; simp; omega),
                by have h1 := owns_fr HOC.out rd9 (fun k hk => by have := (HOC.out.lt k hk).1; simp; omega); simpa [ints] using h1⟩
            clear rd9 c5 ca cb cc fc
            go_wp2_with fail
            go_roundw
            case rel => exact ⟨j + 1, by omega, by go_num, Lib.hid (by rw [HSA.out]; exact ⟨_, HNEW.out⟩)⟩
            case measure => first | (simp [intOf]; done) | (simp [intOf]; omega)
          · obtain rfl : j = G.many := by omega
            rw [← HAE.out] at HGA hal
            have HAL := Lib.hid hal
            clear hal
            have e2 : wr.cell? ⟨w.heap.size + 1 + 1 + 1, 2, none⟩ = some (.bool AR.2.2) := cell_of_heap HGA.out.rd.obj rfl
            have e1 : wr.cell? ⟨w.heap.size + 1 + 1 + 1, 1, none⟩ = some (.int .i64 (AR.2.1 : Nat)) := cell_of_heap HGA.out.rd.obj rfl
            have t0 : wr.cell? ⟨w.heap.size + 1, 0, none⟩ = some (.int .i64 0) := cell_of_heap HGA.out.gw.to_ rfl
            have t1 : wr.frozen? ⟨w.heap.size + 1, 0, none⟩ = false := frozen_of_heap HGA.out.gw.to_
            cases hsh : AR.2.2 with
            | true =>
              have HQ : Hid (RES = failG 4 bs.length) := Lib.hid (by rw [HRE3.out, if_pos hsh])
              have HP2 := Lib.hid hsh
              rw [hsh] at e2
              clear hsh
              go_wp2_with fail
              have g7 := HGA.out.gw.setTo AR.2.1
              have rd7 := HGA.out.rd.setTo HOLD.out AR.2.1
              refine leaves_cons (f := 42) (args := #[.pointer (some ⟨w.heap.size + 3, 0, none⟩), .pointer (some ⟨w.heap.size, 0, none⟩), .pointer (some ⟨w.heap.size + 1, 0, none⟩), .pointer (some ⟨w.heap.size + 2, 0, none⟩)]) (by simp) (by simp [go_sem]) ?_
              refine (tell_short _ _ _ _ _ _ bs AR.2 _ rd7 HP2.out _ rfl g7.ins AR.2.1 0 g7.to_ g7.fault).mono ?_
              rintro e u' w7 ⟨rfl, rfl, told⟩
              have g8 := g7.told told
              exact ⟨_, g8.result rfl rfl rfl rfl, by rw [HQ.out]; exact got_fail w w7 4 bs.length g8.fr⟩
            | false =>
              have HRE4 : Hid (RES = if checkOf x0 G.A G.B G.C G.N AR.1 64 4096 ≠ 0 then failG 5 at' else ⟨⟨x0, G.A, G.B, G.C, G.N, AR.1⟩, AR.2.1, 0, 0⟩) := Lib.hid (by rw [HRE3.out, if_neg (by rw [hsh]; simp)])
              have HP2 := Lib.hid hsh
              rw [hsh] at e2
              clear hsh
              obtain ⟨c0, c1, c2, c3, c4, c5⟩ := cells6 HGA.out.gw.ins
              have HFI := Lib.hid (fine_ok wr x0 G.A G.B G.C G.N _ AR.1 (owns_reads HGA.out.own) (by rw [HAL.out]; omega))
              unfold insV at HFI
              go_wp2_with fail
              refine HFI.out.mono ?_
              rintro e wf ⟨rfl, rf⟩
              have HGF := Lib.hid (HGA.out.gw.to rf)
              have HRF := Lib.hid (HGA.out.rd.frx rf (by simp) (by simp))
              have HOF := Lib.hid (owns_fr HGA.out.own rf (by simp))
              clear rf c0 c1 c2 c3 c4 c5 e1 e2 t0 t1
              by_cases hck : checkOf x0 G.A G.B G.C G.N AR.1 64 4096 = 0
              case neg =>
                have HQ : Hid (RES = failG 5 at') := Lib.hid (by rw [HRE4.out, if_pos hck])
                have e5 : (checkOf x0 G.A G.B G.C G.N AR.1 64 4096 != 0) = true := by simpa using hck
                clear HRE4 HRE3 hck
                generalize checkOf x0 G.A G.B G.C G.N AR.1 64 4096 = ck at *
                have g6 := HGF.out.setFault 5 at'
                have rd6 := HRF.out.setFault HOLD.out #[.int .i64 5, .int .i64 at']
                have e1 : (wf.setRow (w.heap.size + 2) #[.int .i64 5, .int .i64 at']).cell? ⟨w.heap.size + 1 + 1 + 1, 1, none⟩ = some (.int .i64 (AR.2.1 : Nat)) := cell_of_heap rd6.obj rfl
                have t0 : (wf.setRow (w.heap.size + 2) #[.int .i64 5, .int .i64 at']).cell? ⟨w.heap.size + 1, 0, none⟩ = some (.int .i64 0) := cell_of_heap g6.to_ rfl
                have t1 : (wf.setRow (w.heap.size + 2) #[.int .i64 5, .int .i64 at']).frozen? ⟨w.heap.size + 1, 0, none⟩ = false := frozen_of_heap g6.to_
                have HG6 := Lib.hid g6
                have HR6 := Lib.hid rd6
                clear g6 rd6
                go_wp2_with (refine wpList_store_row rfl 49 (.tmp 6) (.tmp 100) rfl (w.heap.size + 2) #[.int .i64 5, .int .i64 at'] rfl rfl _ _ HGF.out.fault (by rw [Try.infoFault]; rfl) rfl (by simp [Value.oneCell']) ?_; rw [act_put_none])
                have g7 := HG6.out.setTo AR.2.1
                have rd7 := HR6.out.setTo HOLD.out AR.2.1
                refine leaves_cons (f := 42) (args := #[.pointer (some ⟨w.heap.size + 3, 0, none⟩), .pointer (some ⟨w.heap.size, 0, none⟩), .pointer (some ⟨w.heap.size + 1, 0, none⟩), .pointer (some ⟨w.heap.size + 2, 0, none⟩)]) (by simp) (by simp [go_sem]) ?_
                refine (tell_err _ _ _ _ _ _ bs AR.2 _ rd7 _ rfl g7.ins AR.2.1 5 at' g7.to_ g7.fault (by decide)).mono ?_
                rintro e u' w7 ⟨rfl, rfl, told⟩
                have g8 := g7.told told
                exact ⟨_, g8.result rfl rfl rfl rfl, by rw [HQ.out]; exact got_fail w w7 5 at' g8.fr⟩
              have HQ : Hid (RES = ⟨⟨x0, G.A, G.B, G.C, G.N, AR.1⟩, AR.2.1, 0, 0⟩) := Lib.hid (by rw [HRE4.out, if_neg (fun h => h hck)])
              have e5 : (checkOf x0 G.A G.B G.C G.N AR.1 64 4096 != 0) = false := by simpa using hck
              clear HRE4 HRE3 hck
              generalize checkOf x0 G.A G.B G.C G.N AR.1 64 4096 = ck at *
              have e1 : wf.cell? ⟨w.heap.size + 1 + 1 + 1, 1, none⟩ = some (.int .i64 (AR.2.1 : Nat)) := cell_of_heap HRF.out.obj rfl
              have t0 : wf.cell? ⟨w.heap.size + 1, 0, none⟩ = some (.int .i64 0) := cell_of_heap HGF.out.to_ rfl
              have t1 : wf.frozen? ⟨w.heap.size + 1, 0, none⟩ = false := frozen_of_heap HGF.out.to_
              go_wp2_with fail
              have g7 := HGF.out.setTo AR.2.1
              have rd7 := HRF.out.setTo HOLD.out AR.2.1
              have o7 := owns_fr HOF.out ((Fr.refl (only [w.heap.size + 1]) wf).setCell ⟨w.heap.size + 1, 0, none⟩ (.int .i64 (AR.2.1 : Nat)) (.inl (by simp))) (fun k hk => by have := (HOF.out.lt k hk).1; simp; omega)
              refine leaves_cons (f := 42) (args := #[.pointer (some ⟨w.heap.size + 3, 0, none⟩), .pointer (some ⟨w.heap.size, 0, none⟩), .pointer (some ⟨w.heap.size + 1, 0, none⟩), .pointer (some ⟨w.heap.size + 2, 0, none⟩)]) (by simp) (by simp [go_sem]) ?_
              refine (tell_fine _ _ _ _ _ _ bs AR.2 _ rd7 HP2.out _ g7.ins AR.2.1 0 g7.to_ g7.fault).mono ?_
              rintro e u' w7 ⟨rfl, rfl, told⟩
              have g8 := g7.told told
              have o8 := owns_fr o7 told.fr (fun k hk => by have := (HOF.out.lt k hk).1; simp; omega)
              refine ⟨_, g8.result rfl rfl rfl rfl, ?_⟩
              rw [HQ.out]
              exact ⟨_, rfl, owns_base o8 (fun k hk => by have := (o8.lt k hk).1; omega), g8.fr⟩

end Go.Proofs.Ytgofiaodncemiaa

namespace Go.Proofs.Ytgofiaodncemiaa
open Go.RowKit

attribute [local go_sem] Program.isFuncB Program.isSliceB

variable {w w' w'' w0 : World}

theorem results_ref {P : Program} {fn : Func} {tmps : Array Value} {w : World} {d1 d2 d3 : Tmp} {t1 t3 : TypeId} {a1 a3 : Addr} {v1 v2 v3 : Value} (hr : fn.results = #[.cell d1 t1, .tmp d2, .cell d3 t3])
    (h1 : tmps.getD d1 undef = .pointer (some a1)) (h2 : tmps.getD d2 undef = v2) (h3 : tmps.getD d3 undef = .pointer (some a3))
    (l1 : (loadVar t1 a1).run P w = .ok v1 w) (l3 : (loadVar t3 a3).run P w = .ok v3 w) : (results fn tmps).run P w = .ok (.tuple #[v1, v2, v3]) w := by
  have h1' : tmps[d1]?.getD undef = .pointer (some a1) := by rw [← h1]; simp [Array.getD_eq_getD_getElem?]
  have h2' : tmps[d2]?.getD undef = v2 := by rw [← h2]; simp [Array.getD_eq_getD_getElem?]
  have h3' : tmps[d3]?.getD undef = .pointer (some a3) := by rw [← h3]; simp [Array.getD_eq_getD_getElem?]
  simp only [results, hr]
  simp [h1', h2', h3', asAddr, l1, l3]

/-- the document's Get's results' two blocks -/
structure RW (w wr : World) (cs : Array Value) (er fa : Int) : Prop where
  ins : wr.heap[w.heap.size]? = some (.cells cs 42 (0, 0))
  fault : wr.heap[w.heap.size + 1]? = some (.cells #[.int .i64 er, .int .i64 fa] 49 (0, 0))
  fr : Fr no w wr
theorem RW.to {wr wr' : World} {cs : Array Value} {er fa : Int} (h : RW w wr cs er fa) (r : Fr no wr wr') : RW w wr' cs er fa :=
  ⟨r.heap h.ins (by simp), r.heap h.fault (by simp), h.fr.trans r⟩
theorem RW.start (w : World) (cs : Array Value) (er fa : Int) : RW w ((w.alloc (.cells cs 42)).alloc (.cells #[.int .i64 er, .int .i64 fa] 49)) cs er fa :=
  ⟨heap_new2 w _ _, heap_new2' w _ _, ((Fr.refl no w).alloc _).alloc _⟩
theorem RW.set1 {wr : World} {cs : Array Value} {er fa : Int} (h : RW w wr cs er fa) (cs' : Array Value) : RW w (wr.setRow w.heap.size cs') cs' er fa := by
  have r := fr_setRow (g := w.heap.size) (cs := cs') (Fr.refl (only [w.heap.size]) wr) (.inl (by simp))
  exact ⟨setRow_heap _ _ _ _ _ _ h.ins, r.heap h.fault (by simp), h.fr.trans' r (fun k hk _ => by simp at hk; omega)⟩
theorem RW.set2 {wr : World} {cs : Array Value} {er fa : Int} (h : RW w wr cs er fa) (er' fa' : Int) : RW w (wr.setRow (w.heap.size + 1) #[.int .i64 er', .int .i64 fa']) cs er' fa' := by
  have r := fr_setRow (g := w.heap.size + 1) (cs := #[.int .i64 er', .int .i64 fa']) (Fr.refl (only [w.heap.size + 1]) wr) (.inl (by simp))
  exact ⟨r.heap h.ins (by simp), setRow_heap _ _ _ _ _ _ h.fault, h.fr.trans' r (fun k hk _ => by simp at hk; omega)⟩
theorem RW.load1 {wr : World} {cs : Array Value} {er fa : Int} (h : RW w wr cs er fa) (hcs : cs.size = 6) : (loadVar 42 ⟨w.heap.size, 0, none⟩).run Try.prog wr = .ok (.agg cs) wr :=
  run_loadVar_row wr _ _ _ cs (0, 0) _ h.ins Try.underlying42 rfl (by rw [Try.infoIns, hcs])
theorem RW.load2 {wr : World} {cs : Array Value} {er fa : Int} (h : RW w wr cs er fa) : (loadVar 49 ⟨w.heap.size + 1, 0, none⟩).run Try.prog wr = .ok (.agg #[.int .i64 er, .int .i64 fa]) wr :=
  run_loadVar_row wr _ _ _ _ (0, 0) _ h.fault Try.underlying49 rfl (by rw [Try.infoFault]; rfl)

/-! ### plain facts of reading on -/
theorem takeR_sticky (bs : List Nat) (n : Nat) (p : Nat × Bool) (h : p.2 = true) : (takeR bs n p).2.2 = true := by
  unfold takeR; rw [if_pos (.inl h)]
theorem stepG_sticky (bs : List Nat) (g : GS) (c : UInt8) (h : g.p.2 = true) : (stepG bs g c).p.2 = true := by
  unfold stepG
  split
  · exact takeR_sticky bs 1 g.p h
  · rw [(put_k _ _ _ _).2.1]; exact takeR_sticky bs _ g.p h
theorem fold_sticky (bs : List Nat) : ∀ (s : List UInt8) (g : GS), g.p.2 = true → (s.foldl (stepG bs) g).p.2 = true
  | [], g, h => h
  | c :: s, g, h => fold_sticky bs s _ (stepG_sticky bs g c h)
theorem runG_sticky (bs : List Nat) (p : Nat × Bool) (s : List UInt8) (k : Nat) (h : (runG bs p (s.take k)).p.2 = true) : (runG bs p s).p.2 = true := by
  have : runG bs p s = (s.drop k).foldl (stepG bs) (runG bs p (s.take k)) := by
    unfold runG
    rw [← List.foldl_append, List.take_append_drop]
  rw [this]
  exact fold_sticky bs _ _ h
theorem takeR_fine (bs : List Nat) (n a : Nat) (h : a + n ≤ bs.length) : takeR bs n (a, false) = (unle ((bs.drop a).take n), a + n, false) := by
  unfold takeR; rw [if_neg (by rintro (h' | h'); cases h'; simp at h'; omega)]
theorem takeR_short (bs : List Nat) (n a : Nat) (h : bs.length < a + n) : takeR bs n (a, false) = (0, a, true) := by
  unfold takeR; rw [if_pos (.inr h)]
theorem takeR_one (bs : List Nat) (a : Nat) (h : a < bs.length) : takeR bs 1 (a, false) = (bs[a], a + 1, false) := by
  rw [takeR_fine bs 1 a (by omega), List.drop_eq_getElem_cons h, List.take_succ_cons, List.take_zero]
  rfl
theorem argsR_fine (bs : List Nat) (a : Nat) : ∀ (n : Nat), a + n ≤ bs.length → argsR bs n (a, false) = (((bs.drop a).take n).map (fun (x : Nat) => (x : Int)), a + n, false)
  | 0, _ => by simp [argsR]
  | n + 1, h => by
    have ih := argsR_fine bs a n (by omega)
    unfold argsR
    rw [ih]
    dsimp only
    rw [takeR_one bs (a + n) (by omega)]
    rw [List.take_succ_eq_append_getElem (by simp; omega)]
    simp
    omega
theorem argsR_sticky (bs : List Nat) : ∀ (n : Nat) (p : Nat × Bool), p.2 = true → (argsR bs n p).2.2 = true
  | 0, _, h => h
  | n + 1, p, h => by
    unfold argsR
    exact takeR_sticky bs 1 _ (argsR_sticky bs n p h)
theorem argsR_short (bs : List Nat) (a n : Nat) (ha : a ≤ bs.length) (h : bs.length < a + n) : (argsR bs n (a, false)).2.2 = true := by
  induction n with
  | zero => omega
  | succ n ih =>
    unfold argsR
    by_cases h1 : bs.length < a + n
    · exact takeR_sticky bs 1 _ (ih h1)
    · rw [argsR_fine bs a n (by omega)]
      dsimp only
      rw [takeR_short bs 1 (a + n) (by omega)]
theorem shape_l : ∀ n, n < 33 → (List.range (shapeOf n).data.toList.length).all (fun k => (shapeOf n).data.toList.getD k 0 != 108 || k + 1 == (shapeOf n).data.toList.length) = true := by decide

end Go.Proofs.Ytgofiaodncemiaa

namespace Go.Proofs.Ytgofiaodncemiaa
open Go.RowKit

attribute [local go_sem] Program.isFuncB Program.isSliceB

variable {w w' w'' w0 : World}

/-- where the document's Get's loop stands -/
structure RI (w wr : World) (x0 : Nat) (g : GS) (rv av : Value) (r l : List Int) : Prop where
  rw_ : RW w wr zeroIns 0 0
  var : wr.heap[w.heap.size + 2]? = some (.cells #[.int .i64 x0, .int .i64 0, .int .i64 0, .int .i64 0, .int .i64 g.N, av] 42 (0, 0))
  regs : wr.ownsRow (w.heap.size + 3) 3 1 rv r.length (ints r)
  args : wr.ownsRow (w.heap.size + 3) 3 1 av l.length (ints l)
  ap : ∀ k, rv.ownBlock = some k → av.ownBlock ≠ some k
/-- .. and what it has read -/
structure RP (bs : List Nat) (g : GS) (r : List Int) (last : Bool) : Prop where
  p : g.p.2 = false
  a : (argsR bs g.many g.p).2.2 = false
  few : g.many ≤ 8
  none : last = false → g.many = 0
  k : r.length = g.k
  A : g.A = r.getD 0 0
  B : g.B = r.getD 1 0
  C : g.C = r.getD 2 0
section
variable {wr wr' : World} {x0 : Nat} {g : GS} {rv av rv' av' : Value} {r l : List Int}
theorem RI.to (h : RI w wr x0 g rv av r l) (q : Fr no wr wr') : RI w wr' x0 g rv av r l :=
  ⟨h.rw_.to q, q.heap h.var (by simp), owns_fr h.regs q (by simp), owns_fr h.args q (by simp), h.ap⟩
theorem RI.size (h : RI w wr x0 g rv av r l) : w.heap.size + 3 ≤ wr.heap.size := (Array.getElem?_eq_some_iff.1 h.var).1
theorem RI.appR {n : Int} (h : RI w wr x0 g rv av r l) (ho : wr'.ownsRow (w.heap.size + 3) 3 1 rv' (r.length + 1) (ints r ++ [.int .i64 n])) (hg : wr.grownBy wr' rv.ownBlock)
    (hb : ∀ k, rv'.ownBlock = some k → rv.ownBlock = some k ∨ k = wr.heap.size) : RI w wr' x0 g rv' av (r ++ [n]) l := by
  have q : Fr (fun k => rv.ownBlock = some k) wr wr' := (Fr.refl _ wr).grown hg (fun k hk => .inl hk)
  have hge := fun k (hk : rv.ownBlock = some k) => (h.regs.lt k hk).1
  refine ⟨⟨q.heap h.rw_.ins (fun e => by have := hge _ e; omega), q.heap h.rw_.fault (fun e => by have := hge _ e; omega), h.rw_.fr.trans' q (fun k hk _ => by have := hge _ hk; omega)⟩, q.heap h.var (fun e => by have := hge _ e; omega), by simpa [ints] using ho,
    owns_fr h.args q (fun k hk e => h.ap k e hk), fun k hk e => ?_⟩
  rcases hb k hk with h2 | rfl
  · exact h.ap k h2 e
  · have := (h.args.lt _ e).2; omega
end

theorem lastL (n : Nat) (h : n < 33) (k : Nat) (hk : k < (shapeOf n).size) (hc : (shapeOf n)[k]'hk = 108) : k + 1 = (shapeOf n).size := by
  have h1 := shape_l n h
  rw [List.all_eq_true] at h1
  have h2 := h1 k (by rw [List.mem_range, blen]; exact hk)
  rw [blen] at h2
  have h3 : (shapeOf n).data.toList.getD k 0 = (shapeOf n)[k]'hk := by
    rw [List.getD_eq_getElem?_getD, List.getElem?_eq_getElem (by rw [blen]; exact hk)]; rfl
  rw [h3, hc] at h2
  simpa using h2
theorem lastI (x : Nat) (k : Nat) (hk : k < (shapeI x).size) (hc : (shapeI x)[k]'hk = 108) : k + 1 = (shapeI x).size := by
  by_cases h : 0 ≤ (x : Int) ∧ (x : Int) < 33
  · have e : shapeI x = shapeOf x := by unfold shapeI; rw [if_pos h, Int.toNat_natCast]
    have hx : x < 33 := by omega
    revert hk hc
    rw [e]
    intro hk hc
    exact lastL x hx k hk hc
  · have e : shapeI x = ⟨#[]⟩ := by unfold shapeI; rw [if_neg h]
    revert hk hc
    rw [e]
    intro hk hc
    exact absurd hk (by simp [ByteArray.size])

end Go.Proofs.Ytgofiaodncemiaa

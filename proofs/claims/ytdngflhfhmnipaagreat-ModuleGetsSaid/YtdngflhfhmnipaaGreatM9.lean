/- module.Get's reader: place.fail, place.take. -/
import Derived.Test.YtdngflhfhmnipaaGreatM7
set_option linter.unusedSimpArgs false
set_option linter.unusedVariables false
set_option linter.unusedSectionVars false
set_option linter.unnecessarySimpa false
namespace Go.Proofs.YtdngflhfhmnipaaGreat
open Go.RowKit

attribute [local go_sem] Program.isFuncB Program.isSliceB

variable {w w' w'' w0 : World}

/-- where one stands, and the first fault -/
structure Pl where
  at_ : Nat
  er : Int
  fa : Int
  deriving DecidableEq
def failP (s : Pl) (e a : Int) : Pl := if s.er = 0 then ⟨s.at_, e, a⟩ else s
def takeP (bs : List Nat) (n : Nat) (s : Pl) : List Nat × Pl :=
  if s.er ≠ 0 then ([], s) else if bs.length - s.at_ < n then ([], failP s 4 bs.length) else ((bs.drop s.at_).take n, ⟨s.at_ + n, s.er, s.fa⟩)
theorem takeP_le {bs : List Nat} {n : Nat} {s : Pl} (h : s.at_ ≤ bs.length) : (takeP bs n s).2.at_ ≤ bs.length := by
  unfold takeP
  split
  · exact h
  · split
    · unfold failP; split <;> exact h
    · simp; omega
theorem failP_at (s : Pl) (e a : Int) : (failP s e a).at_ = s.at_ := by unfold failP; split <;> rfl

/-- a part of some bytes -/
theorem reads_part {l : List Nat} {b o c sa n : Nat} (h : Reads w (.slice (some ⟨b, o, none⟩) l.length c) 1 l.length (u8s l)) (hl : sa + n ≤ l.length) : Reads w (.slice (some ⟨b, o + sa, none⟩) n (c - sa)) 1 n (u8s ((l.drop sa).take n)) := by
  rcases h with ⟨h, -⟩ | ⟨a, cap, h, h1, h2, h3, h4⟩
  · cases h
  · cases h
    have hm : (maxLen : Nat) = 9223372036854775807 := rfl
    refine .inr ⟨_, c - sa, rfl, by omega, by omega, by simp [u8s]; omega, fun j u hu => ?_⟩
    have hj : j < n := by
      have := (List.getElem?_eq_some_iff.1 hu).1
      simp [u8s] at this
      omega
    have := h4 (sa + j) u (by
      simp only [u8s, List.getElem?_map] at hu ⊢
      rw [List.getElem?_take, if_pos hj, List.getElem?_drop] at hu
      exact hu)
    rw [Addr.add_lit] at this ⊢
    rw [Nat.add_assoc]
    exact this

/-- a place in a block -/
structure PlAt (w : World) (pb : Nat) (bv : Value) (bs : List Nat) (s : Pl) : Prop where
  obj : w.heap[pb]? = some (.cells #[bv, .int .i64 s.at_, .int .i64 s.er, .int .i64 s.fa] 66 (0, 0))
  bytes : Reads w bv 1 bs.length (u8s bs)
  old : ∀ k, bv.ownBlock = some k → k ≠ pb
  le : s.at_ ≤ bs.length
  form : (bv = .slice none 0 0 ∧ bs = []) ∨ ∃ b o c, bv = .slice (some ⟨b, o, none⟩) bs.length c
theorem PlAt.fr {pb : Nat} {bv : Value} {bs : List Nat} {s : Pl} {S : Nat → Prop} (h : PlAt w pb bv bs s) (r : Fr S w w') (hp : ¬ S pb) (hb : ∀ k, bv.ownBlock = some k → ¬ S k) : PlAt w' pb bv bs s :=
  ⟨r.heap h.obj hp, h.bytes.fr r hb, h.old, h.le, h.form⟩
theorem PlAt.fn {pb : Nat} {bv : Value} {bs : List Nat} {s : Pl} (h : PlAt w pb bv bs s) (r : Fr no w w') : PlAt w' pb bv bs s := h.fr r (by simp) (by simp)

set_option maxHeartbeats 1000000 in
theorem fail_ok (w : World) (pb : Nat) (bv : Value) (bs : List Nat) (s : Pl) (er fa : Int) (hp : PlAt w pb bv bs s) :
    Calls Tryz.prog 40 #[.pointer (some ⟨pb, 0, none⟩), .int .i64 er, .int .i64 fa] w fun e w' => e = .returned (.pointer (some ⟨pb, 0, none⟩)) ∧ PlAt w' pb bv bs (failP s er fa) ∧ Fr (only [pb]) w w' := by
  obtain ⟨c0, c1, c2, c3⟩ := cells4 hp.obj
  by_cases h : s.er = 0
  · have e1 : (s.er == 0) = true := by simpa using h
    have f2 : w.frozen? ⟨pb, 2, none⟩ = false := frozen_of_heap hp.obj
    have f3 : w.frozen? ⟨pb, 3, none⟩ = false := frozen_of_heap hp.obj
    have HP := Lib.hid hp
    clear hp
    go_enter Tryz.func40, Tryz.ntmps40
    go_wp2_with fail
    go_ret
    have h1 := heap_setCell (o := 3) (v := .int .i64 fa) (heap_setCell (o := 2) (v := .int .i64 er) HP.out.obj)
    have r : Fr (only [pb]) w ((w.setCell ⟨pb, 2, none⟩ (.int .i64 er)).setCell ⟨pb, 3, none⟩ (.int .i64 fa)) := ((Fr.refl _ w).setCell _ _ (.inl (by simp))).setCell _ _ (.inl (by simp))
    refine ⟨rfl, ⟨?_, HP.out.bytes.fr r (fun k hk => by simpa using HP.out.old k hk), HP.out.old, by rw [failP_at]; exact HP.out.le, HP.out.form⟩, r⟩
    unfold failP
    rw [if_pos h]
    simpa using h1
  · have e1 : (s.er == 0) = false := by simpa using h
    have HP := Lib.hid hp
    have HF : Hid (failP s er fa = s) := Lib.hid (by unfold failP; rw [if_neg h])
    clear hp h
    go_enter Tryz.func40, Tryz.ntmps40
    go_wp2_with fail
    go_ret
    exact ⟨rfl, by rw [HF.out]; exact HP.out, Fr.refl _ _⟩

set_option maxRecDepth 100000 in
set_option maxHeartbeats 2000000 in
theorem takep_ok (w : World) (pb : Nat) (bv : Value) (bs : List Nat) (s : Pl) (n : Nat) (hp : PlAt w pb bv bs s) (hn : n ≤ 100000) (hbl : bs.length ≤ 100000) :
    Calls Tryz.prog 59 #[.pointer (some ⟨pb, 0, none⟩), .int .i64 n] w fun e w' => ∃ v, e = .returned v ∧ w'.ownsRow w.heap.size 5 1 v (takeP bs n s).1.length (u8s (takeP bs n s).1) ∧ Nums .u8 w' v ∧ PlAt w' pb bv bs (takeP bs n s).2 ∧ Fr (only [pb]) w w' := by
  obtain ⟨c0, c1, c2, c3⟩ := cells4 hp.obj
  obtain ⟨va, vc, rfl⟩ := hp.bytes.shape
  have hle := hp.le
  by_cases h : s.er = 0
  case neg =>
    have e1 : (s.er != 0) = true := by simpa using h
    have HF : Hid (takeP bs n s = ([], s)) := Lib.hid (by unfold takeP; rw [if_pos h])
    have HP := Lib.hid hp
    clear hp h
    go_enter Tryz.func59, Tryz.ntmps59
    go_wp2_with fail
    go_ret
    exact ⟨_, rfl, by rw [HF.out]; exact World.ownsRow_nil _ _ _ _, Nums.nil _ _ _ _, by rw [HF.out]; exact HP.out, Fr.refl _ _⟩
  have e1 : (s.er != 0) = false := by simpa using h
  by_cases hs : bs.length - s.at_ < n
  · have hs' : (bs.length : Int) - s.at_ < n := by omega
    have HF : Hid (takeP bs n s = ([], failP s 4 bs.length)) := Lib.hid (by unfold takeP; rw [if_neg (by simpa using h), if_pos hs])
    have HP := Lib.hid hp
    have HFL := Lib.hid (fun w1 (hp1 : PlAt w1 pb (.slice va bs.length vc) bs s) => fail_ok w1 pb _ bs s 4 bs.length hp1)
    have HP1 := Lib.hid (fun n => hp.fn ((Fr.refl no w).drewN n))
    clear hp h hs
    go_enter Tryz.func59, Tryz.ntmps59
    go_upto_region 3 with fail
    go_quiet (fail)
    go_wp2_with fail
    refine (HFL.out _ (HP1.out _)).mono ?_
    rintro e w2 ⟨rfl, hp2, r2⟩
    have HP2 := Lib.hid hp2
    have R2 := Lib.hid (((Fr.refl (only [pb]) w).drewN _).trans r2)
    clear hp2 r2
    go_wp2_with fail
    go_ret
    exact ⟨_, rfl, by rw [HF.out]; exact World.ownsRow_nil _ _ _ _, Nums.nil _ _ _ _, by rw [HF.out]; exact HP2.out, R2.out⟩
  have hs' : ¬ (bs.length : Int) - s.at_ < n := by omega
  have HF : Hid (takeP bs n s = ((bs.drop s.at_).take n, ⟨s.at_ + n, s.er, s.fa⟩)) := Lib.hid (by unfold takeP; rw [if_neg (by simpa using h), if_neg hs])
  have hcap := cap_of_reads hp.bytes
  have HP := Lib.hid hp
  have f1 : w.frozen? ⟨pb, 1, none⟩ = false := frozen_of_heap hp.obj
  clear hp h
  obtain ⟨sa, ser, sfa⟩ := s
  dsimp only at c0 c1 c2 c3 hle hs hs' HF HP e1
  have HW : Hid (∀ q w1, Fr no ((w.drewN q).setCell ⟨pb, 1, none⟩ (.int .i64 ((sa : Int) + n))) w1 → PlAt w1 pb (.slice va bs.length vc) bs ⟨sa + n, ser, sfa⟩ ∧ Fr (only [pb]) w w1) := Lib.hid (fun q w1 r1 => by
    have r : Fr (only [pb]) w ((w.drewN q).setCell ⟨pb, 1, none⟩ (.int .i64 ((sa : Int) + n))) := ((Fr.refl _ w).drewN q).setCell _ _ (.inl (by simp))
    have h1 := heap_setCell (o := 1) (v := .int .i64 ((sa : Int) + n)) (show (w.drewN q).heap[pb]? = _ from HP.out.obj)
    refine ⟨PlAt.fn ⟨?_, HP.out.bytes.fr r (fun k hk => by simpa using HP.out.old k hk), HP.out.old, by show sa + n ≤ bs.length; omega, HP.out.form⟩ r1, r.trans (r1.mono (fun k hk => hk.elim))⟩
    rw [h1]
    simp)
  go_enter Tryz.func59, Tryz.ntmps59
  go_upto_region 3 with fail
  go_quiet (fail)
  go_upto_region 7 with fail
  have HWQ := Lib.hid (HW.out nq)
  clear HW c0 c1 c2 c3 f1
  generalize (w.drewN nq).setCell ⟨pb, 1, none⟩ (.int .i64 ((sa : Int) + n)) = wz at *
  have PZ := Lib.hid (HWQ.out wz.drew (Fr.refl no wz).drew).1
  obtain ⟨c0, c1, -, -⟩ := cells4 PZ.out.obj
  rcases PZ.out.form with ⟨hf, hbs⟩ | ⟨b, o, c, hf⟩
  · obtain ⟨rfl, hL, rfl⟩ : va = none ∧ bs.length = 0 ∧ vc = 0 := by simpa using hf
    obtain rfl : sa = 0 := by omega
    obtain rfl : n = 0 := by omega
    have HR := Lib.hid (fun w1 => (.inl ⟨rfl, rfl, rfl⟩ : Reads w1 (.slice none 0 0) 1 ([] : List Nat).length (u8s [])))
    have HFF : Hid (takeP bs 0 ⟨0, ser, sfa⟩ = ([], ⟨0, ser, sfa⟩)) := Lib.hid (by rw [HF.out]; simp)
    rw [hL] at c0 ⊢
    clear hf hbs hL HF hs' hs hle hcap
    refine Lex.region [15] [17] (by kernel_rfl) (by kernel_rfl) ?_
    refine Lex.opens (fun w' => w'.cell? ⟨pb, 0, none⟩ = some (.slice none 0 0) ∧ w'.cell? ⟨pb, 1, none⟩ = some (.int .i64 (0 + 0 : Nat))) (⟨c0, c1⟩) ?_
    repeat (first
      | (refine Lex.skips (by rfl) ?_; (try simp only [Act.put, List.setIfInBounds_toArray, List.set_cons_zero, List.set_cons_succ]))
      | (refine Lex.quiet (v := ?_) (by rfl) (by rfl) ?_ ?_; rotate_left; (focus (intro w' hS'; go_simp; try rfl)); (try simp only [Act.put, List.setIfInBounds_toArray, List.set_cons_zero, List.set_cons_succ])))
    refine Lex.loud (by rfl) (by rfl) ?_
    intro K' hK'
    go_simp
    refine (cloneb_ok _ _ [] (HR.out _) (by simp)).mono ?_
    rintro e w5 ⟨v, rfl, hv, hn5, r5⟩
    have HV := Lib.hid hv
    have HN := Lib.hid hn5
    have R5 := Lib.hid ((Fr.refl no wz).drew.trans r5)
    clear hv hn5 r5
    refine hK' _ _ (⟨R5.out.cell c0 (by simp), R5.out.cell c1 (by simp)⟩) ?_
    clear hK'
    try simp only [Act.put, List.setIfInBounds_toArray, List.set_cons_zero, List.set_cons_succ]
    repeat (first
      | (refine Lex.skips (by rfl) ?_; (try simp only [Act.put, List.setIfInBounds_toArray, List.set_cons_zero, List.set_cons_succ]))
      | (refine Lex.quiet (v := ?_) (by rfl) (by rfl) ?_ ?_; rotate_left; (focus (intro w' hS'; go_simp; try rfl)); (try simp only [Act.put, List.setIfInBounds_toArray, List.set_cons_zero, List.set_cons_succ])))
    refine Lex.done ?_
    refine Lex.ends ?_
    go_wp2_with fail
    go_ret
    exact ⟨_, rfl, by rw [HFF.out]; exact owns_base HV.out (fun k hk => by have := (HV.out.lt k hk).1; have := (HWQ.out _ (Fr.refl no wz).drew).2.size; omega), HN.out, by rw [HFF.out]; exact (HWQ.out _ R5.out).1, (HWQ.out _ R5.out).2⟩
  · obtain ⟨rfl, rfl⟩ : va = some ⟨b, o, none⟩ ∧ vc = c := by simpa using hf
    have HR := Lib.hid (fun w1 (r : Fr no wz w1) => reads_part ((HWQ.out w1 r).1.bytes) (show sa + n ≤ bs.length by omega))
    have HTL : Hid (((bs.drop sa).take n).length = n) := Lib.hid (by rw [List.length_take, List.length_drop]; omega)
    have F1 : IntKind.i64.wrap (sa : Int) = sa := by rw [IntKind.wrap_i64] <;> omega
    have F2 : (0 : Int) ≤ sa + n := by omega
    have F3 : (sa : Int) + n ≤ vc := by omega
    have F4 : (sa : Int) ≤ max ((sa : Int) + n) 0 := by omega
    have F5 : ((sa : Int) + n).toNat = sa + n := by omega
    have F6 : (sa + n : Nat) - sa = n := by omega
    obtain ⟨PV, hPV⟩ : ∃ x, x = (if vc = sa then some (⟨b, o, none⟩ : Addr) else some ⟨b, o + sa, none⟩) := ⟨_, rfl⟩
    have HR2 : Hid (∀ w1, Fr no wz w1 → Reads w1 (.slice PV n (vc - sa)) 1 n (u8s ((bs.drop sa).take n))) := Lib.hid (fun w1 r => by
      rw [hPV]
      by_cases hv : vc = sa
      · have h0 : n = 0 := by omega
        subst h0
        rw [if_pos hv]
        exact .inr ⟨_, vc - sa, rfl, Nat.zero_le _, by have : (maxLen : Nat) = 9223372036854775807 := rfl; have := (HWQ.out w1 r).1.bytes; rcases this with ⟨h, -⟩ | ⟨a, cap, h, h1, h2, -⟩ <;> cases h; omega, by simp [u8s], fun j u hu => by simp [u8s] at hu⟩
      · rw [if_neg hv]
        exact HR.out w1 r)
    have hPV2 : (if vc = sa then some (⟨b, o, none⟩ : Addr) else some ⟨b, o + sa, none⟩) = PV := hPV.symm
    clear hf hPV HR
    refine Lex.region [15] [17] (by kernel_rfl) (by kernel_rfl) ?_
    refine Lex.opens (fun w' => w'.cell? ⟨pb, 0, none⟩ = some (.slice (some ⟨b, o, none⟩) bs.length vc) ∧ w'.cell? ⟨pb, 1, none⟩ = some (.int .i64 (sa + n : Nat))) (⟨c0, c1⟩) ?_
    repeat (first
      | (refine Lex.skips (by rfl) ?_; (try simp only [Act.put, List.setIfInBounds_toArray, List.set_cons_zero, List.set_cons_succ]))
      | (refine Lex.quiet (v := ?_) (by rfl) (by rfl) ?_ ?_; rotate_left; (focus (intro w' hS'; go_simp; try rfl)); (try simp only [Act.put, List.setIfInBounds_toArray, List.set_cons_zero, List.set_cons_succ])))
    refine Lex.loud (by rfl) (by rfl) ?_
    intro K' hK'
    go_simp
    have HC := cloneb_ok wz.drew (.slice PV n (vc - sa)) ((bs.drop sa).take n) (by rw [HTL.out]; exact HR2.out _ (Fr.refl no wz).drew) (by rw [HTL.out]; omega)
    refine HC.mono ?_
    clear HC
    rintro e w5 ⟨v, rfl, hv, hn5, r5⟩
    have HV := Lib.hid hv
    have HN := Lib.hid hn5
    have R5 := Lib.hid ((Fr.refl no wz).drew.trans r5)
    clear hv hn5 r5
    refine hK' _ _ (⟨R5.out.cell c0 (by simp), R5.out.cell c1 (by simp)⟩) ?_
    clear hK'
    try simp only [Act.put, List.setIfInBounds_toArray, List.set_cons_zero, List.set_cons_succ]
    repeat (first
      | (refine Lex.skips (by rfl) ?_; (try simp only [Act.put, List.setIfInBounds_toArray, List.set_cons_zero, List.set_cons_succ]))
      | (refine Lex.quiet (v := ?_) (by rfl) (by rfl) ?_ ?_; rotate_left; (focus (intro w' hS'; go_simp; try rfl)); (try simp only [Act.put, List.setIfInBounds_toArray, List.set_cons_zero, List.set_cons_succ])))
    refine Lex.done ?_
    refine Lex.ends ?_
    go_wp2_with fail
    go_ret
    exact ⟨_, rfl, by rw [HF.out]; exact owns_base HV.out (fun k hk => by have := (HV.out.lt k hk).1; have := (HWQ.out _ (Fr.refl no wz).drew).2.size; omega), HN.out, by rw [HF.out]; exact (HWQ.out _ R5.out).1, (HWQ.out _ R5.out).2⟩

end Go.Proofs.YtdngflhfhmnipaaGreat

/- twinshaftref08's reader: fails, take. -/
import Derived.Test.YtdngflhfhmnipaaGreatN1
import Derived.Test.YtdngflhfhmnipaaGreatM12
set_option linter.unusedSimpArgs false
set_option linter.unusedVariables false
set_option linter.unusedSectionVars false
set_option linter.unnecessarySimpa false
namespace Go.Proofs.YtdngflhfhmnipaaGreat
open Go.RowKit

attribute [local go_sem] Program.isFuncB Program.isSliceB

variable {w w' w'' w0 : World}

/-- the reader in a block -/
structure RlAt (w : World) (pb : Nat) (bv : Value) (bs : List Nat) (s : Pl) : Prop where
  obj : w.heap[pb]? = some (.cells #[bv, .int .i64 s.at_, .int .i64 s.er, .int .i64 s.fa] 77 (0, 0))
  bytes : Reads w bv 1 bs.length (u8s bs)
  old : ∀ k, bv.ownBlock = some k → k ≠ pb
  le : s.at_ ≤ bs.length
  form : (bv = .slice none 0 0 ∧ bs = []) ∨ ∃ b o c, bv = .slice (some ⟨b, o, none⟩) bs.length c
theorem RlAt.fr {pb : Nat} {bv : Value} {bs : List Nat} {s : Pl} {S : Nat → Prop} (h : RlAt w pb bv bs s) (r : Fr S w w') (hp : ¬ S pb) (hb : ∀ k, bv.ownBlock = some k → ¬ S k) : RlAt w' pb bv bs s :=
  ⟨r.heap h.obj hp, h.bytes.fr r hb, h.old, h.le, h.form⟩
theorem RlAt.fn {pb : Nat} {bv : Value} {bs : List Nat} {s : Pl} (h : RlAt w pb bv bs s) (r : Fr no w w') : RlAt w' pb bv bs s := h.fr r (by simp) (by simp)

set_option maxHeartbeats 1000000 in
theorem reffail_ok (w : World) (pb : Nat) (bv : Value) (bs : List Nat) (s : Pl) (er fa : Int) (hp : RlAt w pb bv bs s) :
    Calls Tryz.prog 45 #[.pointer (some ⟨pb, 0, none⟩), .int .i64 er, .int .i64 fa] w fun e w' => e = .returned (.tuple #[]) ∧ RlAt w' pb bv bs (failP s er fa) ∧ Fr (only [pb]) w w' := by
  obtain ⟨c0, c1, c2, c3⟩ := cells4 hp.obj
  by_cases h : s.er = 0
  · have e1 : (s.er == 0) = true := by simpa using h
    have f2 : w.frozen? ⟨pb, 2, none⟩ = false := frozen_of_heap hp.obj
    have f3 : w.frozen? ⟨pb, 3, none⟩ = false := frozen_of_heap hp.obj
    have HP := Lib.hid hp
    clear hp
    go_enter Tryz.func45, Tryz.ntmps45
    go_wp2_with fail
    have h1 := heap_setCell (o := 3) (v := .int .i64 fa) (heap_setCell (o := 2) (v := .int .i64 er) HP.out.obj)
    have r : Fr (only [pb]) w ((w.setCell ⟨pb, 2, none⟩ (.int .i64 er)).setCell ⟨pb, 3, none⟩ (.int .i64 fa)) := ((Fr.refl _ w).setCell _ _ (.inl (by simp))).setCell _ _ (.inl (by simp))
    refine ⟨rfl, .tuple #[], by simp [results], rfl, ⟨?_, HP.out.bytes.fr r (fun k hk => by simpa using HP.out.old k hk), HP.out.old, by rw [failP_at]; exact HP.out.le, HP.out.form⟩, r⟩
    unfold failP
    rw [if_pos h]
    simpa using h1
  · have e1 : (s.er == 0) = false := by simpa using h
    have HP := Lib.hid hp
    have HF : Hid (failP s er fa = s) := Lib.hid (by unfold failP; rw [if_neg h])
    clear hp h
    go_enter Tryz.func45, Tryz.ntmps45
    go_wp2_with fail
    exact ⟨rfl, .tuple #[], by simp [results], rfl, by rw [HF.out]; exact HP.out, Fr.refl _ _⟩

set_option maxRecDepth 100000 in
set_option maxHeartbeats 2000000 in
theorem reftake_ok (w : World) (pb : Nat) (bv : Value) (bs : List Nat) (s : Pl) (n : Nat) (hp : RlAt w pb bv bs s) (hn : n ≤ 100000) (hbl : bs.length ≤ 100000) :
    Calls Tryz.prog 62 #[.pointer (some ⟨pb, 0, none⟩), .int .i64 n] w fun e w' => ∃ a c, e = .returned (.slice a (takeP bs n s).1.length c) ∧ Reads w' (.slice a (takeP bs n s).1.length c) 1 (takeP bs n s).1.length (u8s (takeP bs n s).1) ∧ (∀ k, (Value.slice a (takeP bs n s).1.length c).ownBlock = some k → bv.ownBlock = some k) ∧ RlAt w' pb bv bs (takeP bs n s).2 ∧ Fr (only [pb]) w w' := by
  obtain ⟨c0, c1, c2, c3⟩ := cells4 hp.obj
  obtain ⟨va, vc, rfl⟩ := hp.bytes.shape
  have hle := hp.le
  by_cases h : s.er = 0
  case neg =>
    have e1 : (s.er != 0) = true := by simpa using h
    have e2 : (s.er == 0) = false := by simpa using h
    have HF : Hid (takeP bs n s = ([], s)) := Lib.hid (by unfold takeP; rw [if_pos h])
    have HP := Lib.hid hp
    clear hp h
    go_enter Tryz.func62, Tryz.ntmps62
    go_upto_region 1 with fail
    go_quiet (fail)
    go_wp2_with fail
    go_ret
    exact ⟨none, 0, by rw [HF.out]; rfl, by rw [HF.out]; exact .inl ⟨rfl, rfl, rfl⟩, by simp [Value.ownBlock], by rw [HF.out]; exact HP.out.fn ((Fr.refl no w).drewN _), (Fr.refl _ w).drewN _⟩
  have e1 : (s.er != 0) = false := by simpa using h
  have e2 : (s.er == 0) = true := by simpa using h
  by_cases hs : bs.length - s.at_ < n
  · have hs' : (bs.length : Int) - s.at_ < n := by omega
    have HF : Hid (takeP bs n s = ([], failP s 4 bs.length)) := Lib.hid (by unfold takeP; rw [if_neg (by simpa using h), if_pos hs])
    have HP := Lib.hid hp
    have HFL := Lib.hid (fun w1 (hp1 : RlAt w1 pb (.slice va bs.length vc) bs s) => reffail_ok w1 pb _ bs s 4 bs.length hp1)
    have HP1 := Lib.hid (fun n => hp.fn ((Fr.refl no w).drewN n))
    have HFE : Hid ((failP s 4 bs.length).er = 4) := Lib.hid (by unfold failP; rw [if_pos h])
    clear hp h hs
    go_enter Tryz.func62, Tryz.ntmps62
    go_upto_region 1 with fail
    go_quiet (fail)
    go_wp2_with fail
    refine (HFL.out _ (HP1.out _)).mono ?_
    rintro e w2 ⟨rfl, hp2, r2⟩
    have HP2 := Lib.hid hp2
    have R2 := Lib.hid (((Fr.refl (only [pb]) w).drewN _).trans r2)
    have d2 := (cells4 hp2.obj).2.2.1
    rw [HFE.out] at d2
    clear hp2 r2
    go_wp2_with fail
    go_ret
    exact ⟨none, 0, by rw [HF.out]; rfl, by rw [HF.out]; exact .inl ⟨rfl, rfl, rfl⟩, by simp [Value.ownBlock], by rw [HF.out]; exact HP2.out, R2.out⟩
  have hs' : ¬ (bs.length : Int) - s.at_ < n := by omega
  have HF : Hid (takeP bs n s = ((bs.drop s.at_).take n, ⟨s.at_ + n, s.er, s.fa⟩)) := Lib.hid (by unfold takeP; rw [if_neg (by simpa using h), if_neg hs])
  have hcap := cap_of_reads hp.bytes
  have HP := Lib.hid hp
  have f1 : w.frozen? ⟨pb, 1, none⟩ = false := frozen_of_heap hp.obj
  clear hp h
  obtain ⟨sa, ser, sfa⟩ := s
  dsimp only at c0 c1 c2 c3 hle hs hs' HF HP e1 e2
  have HW : Hid (∀ q w1, Fr no ((w.drewN q).setCell ⟨pb, 1, none⟩ (.int .i64 ((sa : Int) + n))) w1 → RlAt w1 pb (.slice va bs.length vc) bs ⟨sa + n, ser, sfa⟩ ∧ Fr (only [pb]) w w1) := Lib.hid (fun q w1 r1 => by
    have r : Fr (only [pb]) w ((w.drewN q).setCell ⟨pb, 1, none⟩ (.int .i64 ((sa : Int) + n))) := ((Fr.refl _ w).drewN q).setCell _ _ (.inl (by simp))
    have h1 := heap_setCell (o := 1) (v := .int .i64 ((sa : Int) + n)) (show (w.drewN q).heap[pb]? = _ from HP.out.obj)
    refine ⟨RlAt.fn ⟨?_, HP.out.bytes.fr r (fun k hk => by simpa using HP.out.old k hk), HP.out.old, by show sa + n ≤ bs.length; omega, HP.out.form⟩ r1, r.trans (r1.mono (fun k hk => hk.elim))⟩
    rw [h1]
    simp)
  go_enter Tryz.func62, Tryz.ntmps62
  go_upto_region 1 with fail
  go_quiet (fail)
  go_upto_region 6 with fail
  have HWQ := Lib.hid (HW.out nq)
  clear HW c0 c1 c2 c3 f1
  generalize (w.drewN nq).setCell ⟨pb, 1, none⟩ (.int .i64 ((sa : Int) + n)) = wz at *
  have PZ := Lib.hid (HWQ.out wz.drew (Fr.refl no wz).drew).1
  obtain ⟨c0, c1, -, -⟩ := cells4 PZ.out.obj
  rcases PZ.out.form with ⟨hf, hbs⟩ | ⟨b, o, c, hf⟩
  · obtain ⟨rfl, hL, rfl⟩ : va = none ∧ bs.length = 0 ∧ vc = 0 := by simpa using hf
    obtain rfl : sa = 0 := by omega
    obtain rfl : n = 0 := by omega
    have HFF : Hid (takeP bs 0 ⟨0, ser, sfa⟩ = ([], ⟨0, ser, sfa⟩)) := Lib.hid (by rw [HF.out]; simp)
    rw [hL] at c0 ⊢
    clear hf hbs hL HF hs' hs hle hcap
    refine Lex.region [] [16] (by kernel_rfl) (by kernel_rfl) ?_
    refine Lex.opens (fun w' => w'.cell? ⟨pb, 0, none⟩ = some (.slice none 0 0) ∧ w'.cell? ⟨pb, 1, none⟩ = some (.int .i64 (0 + 0 : Nat))) (⟨c0, c1⟩) ?_
    repeat (first
      | (refine Lex.skips (by rfl) ?_; (try simp only [Act.put, List.setIfInBounds_toArray, List.set_cons_zero, List.set_cons_succ]))
      | (refine Lex.quiet (v := ?_) (by rfl) (by rfl) ?_ ?_; rotate_left; (focus (intro w' hS'; go_simp; try rfl)); (try simp only [Act.put, List.setIfInBounds_toArray, List.set_cons_zero, List.set_cons_succ])))
    refine Lex.done ?_
    refine Lex.ends ?_
    go_wp2_with fail
    go_ret
    exact ⟨none, 0, by rw [HFF.out]; rfl, by rw [HFF.out]; exact .inl ⟨rfl, rfl, rfl⟩, by simp [Value.ownBlock], by rw [HFF.out]; exact (HWQ.out _ (Fr.refl no wz).drew).1, (HWQ.out _ (Fr.refl no wz).drew).2⟩
  · obtain ⟨rfl, rfl⟩ : va = some ⟨b, o, none⟩ ∧ vc = c := by simpa using hf
    have HR := Lib.hid (fun w1 (r : Fr no wz w1) => reads_part ((HWQ.out w1 r).1.bytes) (show sa + n ≤ bs.length by omega))
    have HTL : Hid (((bs.drop sa).take n).length = n) := Lib.hid (by rw [List.length_take, List.length_drop]; omega)
    have F1 : IntKind.i64.wrap (sa : Int) = sa := by rw [IntKind.wrap_i64] <;> omega
    have F2 : (0 : Int) ≤ sa + n := by omega
    have F3 : (sa : Int) + n ≤ vc := by omega
    have F4 : (sa : Int) ≤ max ((sa : Int) + n) 0 := by omega
    have F5 : ((sa : Int) + n).toNat = sa + n := by omega
    have F6 : (sa + n : Nat) - sa = n := by omega
    obtain ⟨PV, hPV⟩ : ∃ x, x = (if vc = sa then some (⟨b, o, none⟩ : Addr) else some ⟨b, o + sa, none⟩) := ⟨_, rfl⟩
    have HR2 : Hid (∀ w1, Fr no wz w1 → Reads w1 (.slice PV n (vc - sa)) 1 n (u8s ((bs.drop sa).take n))) := Lib.hid (fun w1 r => by
      rw [hPV]
      by_cases hv : vc = sa
      · have h0 : n = 0 := by omega
        subst h0
        rw [if_pos hv]
        exact .inr ⟨_, vc - sa, rfl, Nat.zero_le _, by have : (maxLen : Nat) = 9223372036854775807 := rfl; have := (HWQ.out w1 r).1.bytes; rcases this with ⟨h, -⟩ | ⟨a, cap, h, h1, h2, -⟩ <;> cases h; omega, by simp [u8s], fun j u hu => by simp [u8s] at hu⟩
      · rw [if_neg hv]
        exact HR.out w1 r)
    have HOB : Hid (∀ k, (Value.slice PV n (vc - sa)).ownBlock = some k → (Value.slice (some ⟨b, o, none⟩) bs.length vc).ownBlock = some k) := Lib.hid (fun k hk => by
      rw [hPV] at hk
      split at hk <;> simpa [Value.ownBlock] using hk)
    have hPV2 : (if vc = sa then some (⟨b, o, none⟩ : Addr) else some ⟨b, o + sa, none⟩) = PV := hPV.symm
    clear hf hPV HR
    refine Lex.region [] [16] (by kernel_rfl) (by kernel_rfl) ?_
    refine Lex.opens (fun w' => w'.cell? ⟨pb, 0, none⟩ = some (.slice (some ⟨b, o, none⟩) bs.length vc) ∧ w'.cell? ⟨pb, 1, none⟩ = some (.int .i64 (sa + n : Nat))) (⟨c0, c1⟩) ?_
    repeat (first
      | (refine Lex.skips (by rfl) ?_; (try simp only [Act.put, List.setIfInBounds_toArray, List.set_cons_zero, List.set_cons_succ]))
      | (refine Lex.quiet (v := ?_) (by rfl) (by rfl) ?_ ?_; rotate_left; (focus (intro w' hS'; go_simp; try rfl)); (try simp only [Act.put, List.setIfInBounds_toArray, List.set_cons_zero, List.set_cons_succ])))
    refine Lex.done ?_
    refine Lex.ends ?_
    go_wp2_with fail
    go_ret
    exact ⟨PV, vc - sa, by rw [HF.out]; dsimp only; rw [HTL.out]; rfl, by rw [HF.out]; dsimp only; rw [HTL.out]; exact HR2.out _ (Fr.refl no wz).drew, by rw [HF.out]; dsimp only; rw [HTL.out]; exact HOB.out, by rw [HF.out]; exact (HWQ.out _ (Fr.refl no wz).drew).1, (HWQ.out _ (Fr.refl no wz).drew).2⟩

end Go.Proofs.YtdngflhfhmnipaaGreat

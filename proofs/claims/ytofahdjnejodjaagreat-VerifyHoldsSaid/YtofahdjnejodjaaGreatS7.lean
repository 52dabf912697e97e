/- behind, meet; what an instruction writes. -/
import Derived.Test.YtofahdjnejodjaaGreatS4
import Derived.Test.YtofahdjnejodjaaGreatS5
import Derived.Test.YtofahdjnejodjaaGreatS6
set_option linter.unusedSimpArgs false
set_option linter.unusedVariables false
set_option linter.unusedSectionVars false
set_option linter.unnecessarySimpa false
namespace Go.Proofs.YtofahdjnejodjaaGreat
open Go.RowKit Go.Flow Go.Sure

attribute [local go_sem] Program.isFuncB Program.isSliceB

variable {w w' w'' w0 : World}

def wrI (i : Ix) : Int := (fieldsOf [i.A, i.B, i.C] (sh i.o)).2.2
def u64L (l : List Nat) : List Value := l.map fun (x : Nat) => Value.int .u64 x
theorem u64L_len (l : List Nat) : (u64L l).length = l.length := by simp [u64L]

theorem fields_in (regs : List Int) : ∀ (s : List UInt8) (st : List Int × List Int × Int), (st.2.2 = -1 ∨ st.2.2 ∈ st.1) → (∀ x ∈ st.2.1, x ∈ st.1) →
    ((s.foldl (stepF regs) st).2.2 = -1 ∨ (s.foldl (stepF regs) st).2.2 ∈ (s.foldl (stepF regs) st).1) ∧ ∀ x ∈ (s.foldl (stepF regs) st).2.1, x ∈ (s.foldl (stepF regs) st).1
  | [], st, h1, h2 => ⟨h1, h2⟩
  | c :: s, st, h1, h2 => by
    rw [List.foldl_cons]
    refine fields_in regs s _ ?_ ?_
    · unfold stepF
      split
      · simp
      · split
        · exact h1.imp id (fun h => List.mem_append.2 (.inl h))
        · exact h1
    · unfold stepF
      split
      · exact fun x hx => List.mem_append.2 (.inl (h2 x hx))
      · split
        · intro x hx
          rcases List.mem_append.1 hx with hx | hx
          · exact List.mem_append.2 (.inl (h2 x hx))
          · exact List.mem_append.2 (.inr hx)
        · exact h2
theorem out1_rng {x : Int} (h : ¬ out1 64 x = true) : 0 ≤ x ∧ x < 64 := by
  unfold out1 at h
  simp at h
  omega
theorem wr_rng {i : Ix} (h : ckOf i = 0) : wrI i = -1 ∨ (0 ≤ wrI i ∧ wrI i < 64) := by
  have hf := ((fine_iff _ _ _ _ _ _ _ _).1 h).all
  rcases (fields_in [i.A, i.B, i.C] (sh i.o) ([], [], -1) (.inl rfl) (by simp)).1 with h1 | h1
  · exact .inl h1
  · exact .inr (out1_rng fun h2 => hf (List.any_eq_true.2 ⟨_, List.mem_append.2 (.inl h1), h2⟩))
theorem reads_rng {i : Ix} (h : ckOf i = 0) : ∀ x ∈ readsOf i.o i.A i.B i.C i.l, 0 ≤ x ∧ x < 64 := by
  have hf := ((fine_iff _ _ _ _ _ _ _ _).1 h).all
  intro x hx
  refine out1_rng fun h2 => hf (List.any_eq_true.2 ⟨x, List.mem_append.2 ?_, h2⟩)
  unfold readsOf at hx
  rcases List.mem_append.1 hx with hx | hx
  · exact .inl ((fields_in [i.A, i.B, i.C] (sh i.o) ([], [], -1) (.inl rfl) (by simp)).2 x hx)
  · split at hx
    · exact .inr hx
    · simp at hx

theorem or_u64 (a b : Nat) (ha : a ≤ (18446744073709551615 : Nat)) (hb : b ≤ (18446744073709551615 : Nat)) : Go.bits .or .u64 (a : Int) (b : Int) = ((a ||| b : Nat) : Int) := by
  have hx : a ||| b < 2 ^ 64 := Nat.or_lt_two_pow (by omega) (by omega)
  have h1 : (BitVec.ofInt 64 (a : Int)).toNat = a := by
    rw [BitVec.ofInt_natCast, BitVec.toNat_ofNat]; exact Nat.mod_eq_of_lt (by omega)
  have h2 : (BitVec.ofInt 64 (b : Int)).toNat = b := by
    rw [BitVec.ofInt_natCast, BitVec.toNat_ofNat]; exact Nat.mod_eq_of_lt (by omega)
  show IntKind.u64.wrap ((BitVec.ofInt 64 (a : Int) ||| BitVec.ofInt 64 (b : Int)).toNat : Int) = _
  rw [BitVec.toNat_or, h1, h2, IntKind.wrap_u64]
  omega
theorem and_u64 (a b : Nat) (ha : a ≤ (18446744073709551615 : Nat)) (hb : b ≤ (18446744073709551615 : Nat)) : Go.bits .and .u64 (a : Int) (b : Int) = ((a &&& b : Nat) : Int) := by
  have hx : a &&& b ≤ a := Nat.and_le_left
  have h1 : (BitVec.ofInt 64 (a : Int)).toNat = a := by
    rw [BitVec.ofInt_natCast, BitVec.toNat_ofNat]; exact Nat.mod_eq_of_lt (by omega)
  have h2 : (BitVec.ofInt 64 (b : Int)).toNat = b := by
    rw [BitVec.ofInt_natCast, BitVec.toNat_ofNat]; exact Nat.mod_eq_of_lt (by omega)
  show IntKind.u64.wrap ((BitVec.ofInt 64 (a : Int) &&& BitVec.ofInt 64 (b : Int)).toNat : Int) = _
  rw [BitVec.toNat_and, h1, h2, IntKind.wrap_u64]
  omega
theorem or_le {a b : Nat} (ha : a ≤ (18446744073709551615 : Nat)) (hb : b ≤ (18446744073709551615 : Nat)) : a ||| b ≤ (18446744073709551615 : Nat) := by
  have : a ||| b < 2 ^ 64 := Nat.or_lt_two_pow (by omega) (by omega)
  omega
theorem pow_le (k : Nat) (h : k < 64) : 2 ^ k ≤ (18446744073709551615 : Nat) := by
  have : 2 ^ k ≤ 2 ^ 63 := Nat.pow_le_pow_right (by omega) (by omega)
  omega
theorem pow_wrap (k : Nat) (h : k < 64) : IntKind.u64.wrap ((2 : Int) ^ k) = ((2 ^ k : Nat) : Int) := by
  have h1 := pow_le k h
  have h2 : ((2 : Int) ^ k) = ((2 ^ k : Nat) : Int) := by simp
  rw [h2]
  generalize (2 ^ k : Nat) = z at h1 ⊢
  rw [IntKind.wrap_u64]
  omega
theorem bhd_le {m : Nat} {r : Int} (hm : m ≤ (18446744073709551615 : Nat)) (hr : r < 64) : bhd m r ≤ (18446744073709551615 : Nat) := by
  unfold bhd
  split
  · exact or_le hm (pow_le _ (by omega))
  · exact hm

theorem and_ok (w : World) (x y : Nat) (hx : x ≤ (18446744073709551615 : Nat)) (hy : y ≤ (18446744073709551615 : Nat)) : Calls Tryz.prog 41 #[.int .u64 x, .int .u64 y] w fun e w' => e = .returned (.int .u64 (x &&& y : Nat)) ∧ w = w' := by
  have e1 := and_u64 x y hx hy
  go_enter Tryz.func41, Tryz.ntmps41
  go_wp2_with fail
  go_ret
  exact ⟨rfl, rfl⟩

theorem behind_ok (w : World) (m : Nat) (i : Ix) (u : Value) (hm : m ≤ (18446744073709551615 : Nat)) (hr : wrI i = -1 ∨ (0 ≤ wrI i ∧ wrI i < 64)) :
    Calls Tryz.prog 39 #[.int .u64 m, insV i.o i.A i.B i.C i.N u] w fun e w' => e = .returned (.int .u64 (bhd m (wrI i))) ∧ Fr no w w' := by
  have HW := Lib.hid (fun w => writes_ok w i.o i.A i.B i.C i.N u)
  unfold wrI at *
  generalize (fieldsOf [i.A, i.B, i.C] (sh i.o)).2.2 = r at *
  unfold insV at *
  go_enter Tryz.func39, Tryz.ntmps39
  go_wp2_with fail
  refine (HW.out _).mono ?_
  rintro e w1 ⟨rfl, r1⟩
  have R1 := Lib.hid (((Fr.refl no w).alloc _).trans r1)
  clear r1
  rcases hr with rfl | ⟨h1, h2⟩
  · go_wp2_with fail
    go_ret
    exact ⟨rfl, R1.out⟩
  · obtain ⟨k, rfl⟩ : ∃ k : Nat, r = k := ⟨r.toNat, by omega⟩
    have e1 := or_u64 m (2 ^ k) hm (pow_le k (by omega))
    rw [← pow_wrap k (by omega)] at e1
    have HB : Hid (bhd m (k : Int) = m ||| 2 ^ k) := Lib.hid (by unfold bhd; rw [if_pos (by omega), Int.toNat_natCast])
    obtain ⟨z, hz⟩ : ∃ z, z = m ||| 2 ^ k := ⟨_, rfl⟩
    rw [← hz] at HB e1
    clear hz
    go_wp2_with fail
    go_ret
    rw [HB.out]
    exact ⟨rfl, R1.out⟩

theorem meet_ok (w : World) (m : Nat) (v : Value) (l : List Nat) (hr : Reads w v 1 l.length (u64L l)) (hm : m ≤ (18446744073709551615 : Nat)) (hl : ∀ x ∈ l, x ≤ (18446744073709551615 : Nat)) (hll : l.length ≤ 100000) :
    Calls Tryz.prog 40 #[.int .u64 m, v, .func (.func 41) #[] #[]] w fun e w' => e = .returned (.int .u64 (meetL m l)) ∧ ∃ q, w' = w.drewN q := by
  obtain ⟨a, c, rfl⟩ := hr.shape
  have HR := Lib.hid hr
  have HL := Lib.hid hl
  have HM := Lib.hid hm
  clear hr hl hm
  go_enter Tryz.func40, Tryz.ntmps40
  go_wp2_with fail
  go_loopw [0, 11] (fun x y wr => ∃ (m0 k : Nat), x = .int .u64 m0 ∧ y = .int .i64 k ∧ Hid (k ≤ l.length) ∧ Hid (m0 ≤ (18446744073709551615 : Nat)) ∧ Hid (meetL m0 (l.drop k) = meetL m l) ∧ Hid (∃ q, wr = w.drewN q)) (fun _ y _ => l.length - nOf y)
  case atStart => exact ⟨m, 0, rfl, rfl, Lib.hid (by omega), HM, Lib.hid (by simp), Lib.hid ⟨0, rfl⟩⟩
  case round =>
    obtain ⟨m0, k, rfl, rfl, hk, hm0, heq, hw⟩ := hrel
    obtain ⟨q, rfl⟩ := hw.out
    by_cases hkl : k = l.length
    · have HQ : Hid (m0 = meetL m l) := Lib.hid (by have := heq.out; rw [hkl, List.drop_length] at this; exact this)
      subst hkl
      go_wp2_with fail
      go_ret
      rw [← HQ.out]
      exact ⟨rfl, q, rfl⟩
    · have hlt : k < l.length := by have := hk.out; omega
      have hlt' : (k : Int) < l.length := by omega
      obtain ⟨b, o, rfl, c1⟩ := (HR.out.fr ((Fr.refl no w).drewN q) (by simp)).at1 (k := k) (u := .int .u64 (l[k] : Nat)) (by simp [u64L, hlt])
      have hx := HL.out l[k] (List.getElem_mem hlt)
      have HQ : Hid (meetL (m0 &&& l[k]) (l.drop (k + 1)) = meetL m l) := Lib.hid (by
        have := heq.out
        rw [List.drop_eq_getElem_cons hlt] at this
        exact this)
      generalize l[k] = x at *
      have HAN := Lib.hid (fun w => and_ok w m0 x hm0.out hx)
      have HZ : Hid (m0 &&& x ≤ (18446744073709551615 : Nat)) := Lib.hid (Nat.le_trans Nat.and_le_left hm0.out)
      have HK : Hid (k + 1 ≤ l.length) := Lib.hid hlt
      generalize m0 &&& x = z at *
      clear hkl heq hw hk hx
      go_wp2_with fail
      refine (HAN.out _).mono ?_
      rintro e w2 ⟨rfl, rfl⟩
      go_wp2_with fail
      go_roundw
      case rel => exact ⟨z, k + 1, rfl, by simp, HK, HZ, HQ, Lib.hid ⟨_, rfl⟩⟩
      case measure => simp [nOf]; omega

end Go.Proofs.YtofahdjnejodjaaGreat

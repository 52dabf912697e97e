import Derived.Test.YtkgcfllbkjlfcaaO16
namespace Go.Proofs.Ytkgcfllbkjlfcaa
open Go.RowKit

attribute [local go_sem] Program.isFuncB Program.isSliceB

variable {w w' w'' w0 : World}

/-- how often a text has one of some letters -/
def hasN (s t : List UInt8) : Nat := s.foldl (fun n c => n + t.count c) 0
theorem hasN_snoc (s t : List UInt8) (c : UInt8) : hasN (s ++ [c]) t = hasN s t + t.count c := by simp [hasN]
theorem count_snoc (t : List UInt8) (c d : UInt8) : (t ++ [d]).count c = t.count c + (if c = d then 1 else 0) := by
  rw [List.count_append]
  by_cases h : c = d
  · subst h; simp
  · simp [h, List.count_singleton, Ne.symm h]
theorem hasN_le (s t : List UInt8) : hasN s t ≤ s.length * t.length := by
  have key : ∀ (s : List UInt8) (n : Nat), s.foldl (fun n c => n + t.count c) n ≤ n + s.length * t.length := by
    intro s
    induction s with
    | nil => intro n; simp
    | cons c s ih =>
      intro n
      simp only [List.foldl_cons, List.length_cons]
      have h1 := ih (n + t.count c)
      have h2 := List.count_le_length (a := c) (l := t)
      have h3 : (s.length + 1) * t.length = s.length * t.length + t.length := by rw [Nat.add_mul, Nat.one_mul]
      omega
  simpa [hasN] using key s 0

set_option maxHeartbeats 2000000 in
theorem has_ok (w : World) (s t : ByteArray) (hs : s.size ≤ 1000) (ht : t.size ≤ 1000) :
    Calls Try.prog 51 #[.string s, .string t] w fun e w' => e = .returned (.int .i64 (hasN s.data.toList t.data.toList)) ∧ ∃ q, w' = w.drewN q := by
  go_enter Try.func51, Try.ntmps51
  go_wp2_with fail
  go_loopw [5, 6] (fun x y wr => ∃ i q : Nat, x = .int .i64 (hasN (s.data.toList.take i) t.data.toList : Nat) ∧ y = .int .i64 i ∧ i ≤ s.size ∧ Hid (wr = w.drewN q)) (fun _ y _ => (s.size - intOf y).toNat)
  case atStart => exact ⟨0, 0, rfl, rfl, by omega, Lib.hid rfl⟩
  case round =>
    obtain ⟨i, q, rfl, rfl, hi, hw⟩ := hrel
    by_cases hlt : i < s.size
    · have hlt' : (i : Int) < s.size := by omega
      obtain ⟨wz, hwz⟩ : ∃ x, x = wr := ⟨_, rfl⟩
      subst hwz
      go_wp2_with fail
      have hb1 : hasN (s.data.toList.take i) t.data.toList ≤ 1000000 := by
        have := hasN_le (s.data.toList.take i) t.data.toList
        rw [blen_take s i hi, blen] at this
        have h2 : i * t.size ≤ 1000 * 1000 := Nat.mul_le_mul (by omega) ht
        omega
      have hsn : hasN (s.data.toList.take (i + 1)) t.data.toList = hasN (s.data.toList.take i) t.data.toList + t.data.toList.count (s[i]'hlt) := by rw [btake_succ s i hlt, hasN_snoc]
      have HSN := Lib.hid hsn
      clear hsn
      generalize hasN (s.data.toList.take i) t.data.toList = n at *
      go_loopw [5, 7] (fun x y wr => ∃ k q : Nat, x = .int .i64 (n + (t.data.toList.take k).count (s[i]'hlt) : Nat) ∧ y = .int .i64 k ∧ k ≤ t.size ∧ Hid (wr = w.drewN q)) (fun _ y _ => (t.size - intOf y).toNat)
      case atStart => exact ⟨0, q, by simp, rfl, by omega, hw⟩
      case round =>
        obtain ⟨k, q2, rfl, rfl, hk, hw2⟩ := hrel
        by_cases hkt : k < t.size
        · have hkt' : (k : Int) < t.size := by omega
          have hcn := count_snoc (t.data.toList.take k) (s[i]'hlt) (t[k]'hkt)
          rw [← btake_succ t k hkt] at hcn
          have HCN := Lib.hid hcn
          have hcl : (t.data.toList.take k).count (s[i]'hlt) ≤ 1000 := by
            have := List.count_le_length (a := s[i]'hlt) (l := t.data.toList.take k)
            rw [blen_take t k hk] at this
            omega
          clear hcn
          generalize (t.data.toList.take k).count (s[i]'hlt) = m at *
          have HW2 := hw2
          by_cases heq : s[i]'hlt = t[k]'hkt
          · have hb : (((s[i]'hlt).toNat : Int) == ((t[k]'hkt).toNat : Int)) = true := by rw [heq]; simp
            have HCN2 : Hid ((t.data.toList.take (k + 1)).count (s[i]'hlt) = m + 1) := Lib.hid (by rw [HCN.out, if_pos heq])
            clear heq
            go_wp2_with fail
            go_quiet (fail)
            go_wp2_with fail
            go_roundw
            case rel => exact ⟨k + 1, q2 + nq, by first | (rw [HCN2.out]; done) | (rw [HCN2.out]; go_num), by go_num, by omega, Lib.hid (by rw [HW2.out]; simp [World.drewN, Nat.add_assoc])⟩
            case measure => first | (simp [intOf]; done) | (simp [intOf]; omega)
          · have hb : (((s[i]'hlt).toNat : Int) == ((t[k]'hkt).toNat : Int)) = false := by
              rw [beq_eq_false_iff_ne]
              intro h
              exact heq (UInt8.toNat_inj.1 (by omega))
            have HCN2 : Hid ((t.data.toList.take (k + 1)).count (s[i]'hlt) = m) := Lib.hid (by rw [HCN.out, if_neg heq]; rfl)
            clear heq
            go_wp2_with fail
            go_quiet (fail)
            go_wp2_with fail
            go_roundw
            case rel => exact ⟨k + 1, q2 + nq, by first | (rw [HCN2.out]; done) | (rw [HCN2.out]; go_num), by go_num, by omega, Lib.hid (by rw [HW2.out]; simp [World.drewN, Nat.add_assoc])⟩
            case measure => first | (simp [intOf]; done) | (simp [intOf]; omega)
        · obtain rfl : k = t.size := by omega
          have HR : Hid (t.data.toList.take t.size = t.data.toList) := Lib.hid (by rw [← blen, List.take_length])
          go_wp2_with fail
          go_roundw
          case rel => exact ⟨i + 1, q2, by rw [HSN.out, HR.out], by go_num, by omega, hw2⟩
          case measure => first | (simp [intOf]; done) | (simp [intOf]; omega)
    · obtain rfl : i = s.size := by omega
      have HR : Hid (s.data.toList.take s.size = s.data.toList) := Lib.hid (by rw [← blen, List.take_length])
      go_wp2_with fail
      go_ret
      exact ⟨congrArg (fun l => Ending.returned (Value.int .i64 ((hasN l t.data.toList : Nat) : Int))) HR.out, q, hw.out⟩

end Go.Proofs.Ytkgcfllbkjlfcaa

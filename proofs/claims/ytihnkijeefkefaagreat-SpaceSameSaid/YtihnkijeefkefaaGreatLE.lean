import Derived.Test.YtihnkijeefkefaaGreatLA
import Derived.Laws.BitsAllLaws
import Derived.Test.YtihnkijeefkefaaGreatLB
import Derived.Test.YtihnkijeefkefaaGreatLD
set_option linter.unusedSimpArgs false
set_option linter.unusedVariables false
set_option linter.unusedSectionVars false
set_option linter.unnecessarySimpa false
set_option maxRecDepth 100000
namespace Go.Proofs.YtihnkijeefkefaaGreat
open Go.RowKit

attribute [local go_sem] Program.isFuncB Program.isSliceB

variable {w w' w'' w0 : World}

theorem Tryz.infoU8 : (Tryz.prog.info? 5).map (fun i => (i.zero, i.size, i.bytes)) = some (some (.int .u8 0), 1, 1) := by kernel_rfl

def u8s (l : List Nat) : List Value := l.map fun (n : Nat) => .int .u8 (n : Int)
theorem u8s_len (l : List Nat) : (u8s l).length = l.length := by simp [u8s]
theorem u8s_one (l : List Nat) : ∀ u ∈ u8s l, u.oneCell' = true := by
  intro u hu
  simp only [u8s, List.mem_map] at hu
  obtain ⟨n, _, rfl⟩ := hu
  rfl

/-- a number's bytes, the least first -/
def le (x : Nat) : Nat → List Nat
  | 0 => []
  | n + 1 => le x n ++ [x / 256 ^ n % 256]
theorem le_len (x n : Nat) : (le x n).length = n := by
  induction n with
  | zero => rfl
  | succ n ih => simp [le, ih]

theorem sized_ok (w : World) (n : Nat) (h : n = 1 ∨ n = 2 ∨ n = 4 ∨ n = 8) : Calls Tryz.prog 134 #[.int .i64 n] w fun e w' => e = .returned (.bool true) ∧ w = w' := by
  rcases h with rfl | rfl | rfl | rfl
  all_goals
    go_enter Tryz.func134, Tryz.ntmps134
    go_wp2_with fail
    go_ret
    exact ⟨rfl, rfl⟩
set_option maxHeartbeats 1000000 in
theorem wput_ok (w : World) (x n : Nat) (hx : x < 18446744073709551616) (hn : n = 1 ∨ n = 2 ∨ n = 4 ∨ n = 8) :
    Calls Tryz.prog 75 #[.int .u64 x, .int .i64 n] w fun e w' => ∃ v, e = .returned (.tuple #[v, .int .i64 0]) ∧ w'.ownsRow w.heap.size 5 1 v n (u8s (le x n)) ∧ Fr no w w' := by
  have HS := Lib.hid (fun w => sized_ok w n hn)
  have hn8 : n ≤ 8 := by omega
  have hn1 : 1 ≤ n := by omega
  clear hn
  have HX := Lib.hid hx
  clear hx
  go_enter Tryz.func75, Tryz.ntmps75
  go_wp2_with fail
  refine (HS.out _).mono ?_
  rintro e w' ⟨rfl, rfl⟩
  go_wp2_with fail
  go_loopw [6, 12] (fun a b wr => ∃ i : Nat, b = .int .i64 i ∧ i ≤ n ∧ Hid (wr.ownsRow w.heap.size 5 1 a i (u8s (le x i))) ∧ Hid (Fr no w wr)) (fun _ b _ => (n - intOf b).toNat)
  case atStart => exact ⟨0, rfl, by omega, Lib.hid (World.ownsRow_nil _ _ _ _), Lib.hid (Fr.refl _ _)⟩
  case round =>
    obtain ⟨i, rfl, hi, hown, hfr⟩ := hrel
    obtain ⟨xa, xc, rfl⟩ := owns_shape hown.out
    by_cases hlt : i < n
    · have hlt' : (i : Int) < n := by omega
      have hb0 : (x : Int) / 2 ^ (8 * i) % 256 = ((x / 256 ^ i % 256 : Nat) : Int) := by
        have h1 : (2 : Int) ^ (8 * i) = ((256 ^ i : Nat) : Int) := by
          rw [show (256 : Nat) = 2 ^ 8 from rfl, ← Nat.pow_mul, Int.natCast_pow]; rfl
        rw [h1, ← Int.natCast_ediv]; rfl
      have HLE : Hid (u8s (le x i) ++ [.int .u8 ((x / 256 ^ i % 256 : Nat) : Int)] = u8s (le x (i + 1))) := Lib.hid (by simp [u8s, le])
      generalize x / 256 ^ i % 256 = b at *
      have OD := Lib.hid (hown.out.alloc (.cells #[.int .u8 (b : Int)] 5))
      have R5 := Lib.hid (hfr.out.alloc (.cells #[.int .u8 (b : Int)] 5))
      go_wp2_with (at_builtin; (refine wpList_append_at rfl (.tmp 15) _ 22 rfl w.heap.size 5 (.int .u8 0) 1 1 Tryz.underlying22 Tryz.infoU8 rfl (by decide) _ i _ rfl OD.out 1 [.int .u8 b] (reads_one _ _ _) int_one (by unfold maxLen; omega) (by omega) R5.out.size ?_); intro ga gc w6 ho hg hb)
      have HO6 : Hid (w6.ownsRow w.heap.size 5 1 (.slice ga (i + 1) gc) (i + 1) (u8s (le x (i + 1)))) := Lib.hid (by rw [← HLE.out]; exact ho)
      have R6 := Lib.hid (R5.out.trans' ((Fr.refl (fun k => (Value.slice xa i xc).ownBlock = some k) _).grown hg (fun k hk => .inl hk)) (fun k hk _ => (hown.out.lt k hk).1))
      clear ho hg hb hb0
      go_roundw
      case rel => exact ⟨i + 1, by go_num, by omega, HO6, R6⟩
      case measure => first | (simp [intOf]; done) | (simp [intOf]; omega)
    · obtain rfl : i = n := by omega
      go_wp2_with fail
      go_ret2
      exact ⟨_, rfl, hown.out, hfr.out⟩

end Go.Proofs.YtihnkijeefkefaaGreat

namespace Go.Proofs.YtihnkijeefkefaaGreat
open Go.RowKit

attribute [local go_sem] Program.isFuncB Program.isSliceB

variable {w w' w'' w0 : World}

/-- bytes as a number -/
def unle : List Nat → Nat
  | [] => 0
  | b :: l => b + 256 * unle l
theorem unle_snoc : ∀ (l : List Nat) (b : Nat), unle (l ++ [b]) = unle l + 256 ^ l.length * b
  | [], b => by simp [unle]
  | c :: l, b => by
    simp only [List.cons_append, unle, unle_snoc l b, List.length_cons, Nat.pow_succ]
    rw [Nat.mul_add, Nat.add_assoc, ← Nat.mul_assoc, Nat.mul_comm 256 (256 ^ l.length)]
theorem unle_lt : ∀ (l : List Nat), (∀ b ∈ l, b < 256) → unle l < 256 ^ l.length
  | [], _ => by simp [unle]
  | c :: l, h => by
    have h1 := unle_lt l (fun b hb => h b (List.mem_cons_of_mem _ hb))
    have h2 := h c (List.mem_cons_self ..)
    simp only [unle, List.length_cons, Nat.pow_succ]
    omega

theorem or_add (x c i : Nat) (hx : x < 256 ^ i) (hc : c < 256) (hi : i < 8) : bits .or .u64 (x : Int) (IntKind.u64.wrap ((c : Int) * 2 ^ (8 * i))) = ((x + 256 ^ i * c : Nat) : Int) := by
  have hp : (256 : Nat) ^ i = 2 ^ (8 * i) := by rw [show (256 : Nat) = 2 ^ 8 from rfl, ← Nat.pow_mul]
  have h8 : 256 ^ (i + 1) ≤ 256 ^ 8 := Nat.pow_le_pow_right (by decide) (by omega)
  rw [Nat.pow_succ] at h8
  have hm : c * 256 ^ i ≤ 255 * 256 ^ i := Nat.mul_le_mul_right _ (by omega)
  have hlt : c * 256 ^ i < 18446744073709551616 := by omega
  have hx64 : x < 18446744073709551616 := by omega
  have hw : IntKind.u64.wrap ((c : Int) * 2 ^ (8 * i)) = ((c * 256 ^ i : Nat) : Int) := by
    have e : ((c : Int) * 2 ^ (8 * i)) = ((c * 256 ^ i : Nat) : Int) := by rw [hp]; push_cast; rfl
    rw [e, IntKind.wrap_u64]
    omega
  rw [hw, u64_or_nat x (c * 256 ^ i) hx64 hlt, hp, Nat.or_comm, ← Nat.shiftLeft_eq, ← Nat.shiftLeft_add_eq_or_of_lt (by rw [← hp]; exact hx), Nat.shiftLeft_eq, Nat.mul_comm, Nat.add_comm]

theorem reads_u8 {w : World} {sa : Option Addr} {n c k : Nat} {l : List Nat} (h : Reads w (.slice sa n c) 1 n (u8s l)) (hk : k < l.length) :
    ∃ b o, sa = some ⟨b, o, none⟩ ∧ w.cell? ⟨b, o + k, none⟩ = some (.int .u8 (l[k] : Nat)) :=
  h.at1 (by simp [u8s, hk])

set_option maxHeartbeats 1000000 in
theorem wget_ok (w : World) (v : Value) (l : List Nat) (hv : Reads w v 1 l.length (u8s l)) (hn : l.length = 1 ∨ l.length = 2 ∨ l.length = 4 ∨ l.length = 8) (hb : ∀ b ∈ l, b < 256) :
    Calls Tryz.prog 118 #[v] w fun e w' => e = .returned (.tuple #[.int .u64 (unle l), .int .i64 0]) ∧ w = w' := by
  have HS := Lib.hid (fun w => sized_ok w l.length hn)
  have hn8 : l.length ≤ 8 := by omega
  have hn1 : 1 ≤ l.length := by omega
  obtain ⟨va, vc, rfl⟩ := hv.shape
  have HV := Lib.hid hv
  have HB := Lib.hid hb
  clear hn hv hb
  go_enter Tryz.func118, Tryz.ntmps118
  go_wp2_with fail
  refine (HS.out _).mono ?_
  rintro e w' ⟨rfl, rfl⟩
  go_wp2_with fail
  go_loop [4, 18] (fun a b => ∃ i : Nat, b = .int .i64 i ∧ i ≤ l.length ∧ a = .int .u64 (unle (l.take i) : Nat)) (fun _ b => (l.length - intOf b).toNat)
  case atStart => exact ⟨0, rfl, by omega, rfl⟩
  case round =>
    obtain ⟨i, rfl, hi, rfl⟩ := hrel
    by_cases hlt : i < l.length
    · have hlt' : (i : Int) < l.length := by omega
      obtain ⟨b, o, rfl, ci⟩ := reads_u8 HV.out hlt
      have hlb := HB.out l[i] (List.getElem_mem _)
      have HSN : Hid (unle (l.take (i + 1)) = unle (l.take i) + 256 ^ i * l[i]) := Lib.hid (by
        rw [List.take_succ_eq_append_getElem hlt, unle_snoc, List.length_take, Nat.min_eq_left (by omega)])
      have HLT : Hid (unle (l.take i) < 256 ^ i) := Lib.hid (by
        have := unle_lt (l.take i) (fun b hb => HB.out b (List.mem_of_mem_take hb))
        rwa [List.length_take, Nat.min_eq_left (by omega)] at this)
      generalize l[i] = c at *
      generalize unle (l.take i) = x at *
      have hor := or_add x c i HLT.out hlb (by omega)
      rw [← HSN.out] at hor
      go_wp2_with fail
      go_round
      case rel => exact ⟨i + 1, by go_num, by omega, rfl⟩
      case measure => first | (simp [intOf]; done) | (simp [intOf]; omega)
    · obtain rfl : i = l.length := by omega
      have HT : Hid (unle (l.take l.length) = unle l) := Lib.hid (by rw [List.take_length])
      go_wp2_with fail
      go_ret2
      exact ⟨by rw [← HT.out]; rfl, rfl⟩

end Go.Proofs.YtihnkijeefkefaaGreat

namespace Go.Proofs.YtihnkijeefkefaaGreat
open Go.RowKit

attribute [local go_sem] Program.isFuncB Program.isSliceB

variable {w w' w'' w0 : World}

/-- how many bytes a letter's field has (of an l: its count's) -/
def widthOf (c : Int) : Nat := if c = 105 then 8 else if c = 102 ∨ c = 100 ∨ c = 116 then 2 else 1
theorem widthOf_is (c : Int) : widthOf c = 1 ∨ widthOf c = 2 ∨ widthOf c = 8 := by
  unfold widthOf; split
  · simp
  · split <;> simp

theorem width_ok (w : World) (c : Int) : Calls Tryz.prog 207 #[.int .i32 c] w fun e w' => e = .returned (.int .i64 (widthOf c)) ∧ w = w' := by
  by_cases h1 : c = 105
  · subst h1
    go_enter Tryz.func207, Tryz.ntmps207
    go_wp2_with fail
    go_ret
    exact ⟨rfl, rfl⟩
  by_cases h2 : c = 102
  · subst h2
    go_enter Tryz.func207, Tryz.ntmps207
    go_wp2_with fail
    go_ret
    exact ⟨rfl, rfl⟩
  by_cases h3 : c = 100
  · subst h3
    go_enter Tryz.func207, Tryz.ntmps207
    go_wp2_with fail
    go_ret
    exact ⟨rfl, rfl⟩
  by_cases h4 : c = 116
  · subst h4
    go_enter Tryz.func207, Tryz.ntmps207
    go_wp2_with fail
    go_ret
    exact ⟨rfl, rfl⟩
  have HW : Hid (widthOf c = 1) := Lib.hid (by unfold widthOf; rw [if_neg h1, if_neg (by rintro (h | h | h) <;> contradiction)])
  have e1 : (c == 105) = false := by simpa using h1
  have e2 : (c == 102) = false := by simpa using h2
  have e3 : (c == 100) = false := by simpa using h3
  have e4 : (c == 116) = false := by simpa using h4
  clear h1 h2 h3 h4
  go_enter Tryz.func207, Tryz.ntmps207
  go_wp2_with fail
  go_ret
  exact ⟨by rw [HW.out]; rfl, rfl⟩

/-- is a letter one of a register? -/
def regB (c : Int) : Bool := c == 119 || c == 114
/-- the number that a letter stands for -/
def fieldI (A B C N : Int) (c : Int) (k : Nat) : Int := if regB c = true then [A, B, C].getD k 0 else N
/-- where the number that a letter stands for lies -/
def placeI (c : Int) (k : Nat) : Nat := if regB c = true then k + 1 else 4
set_option maxHeartbeats 1000000 in
theorem place_ok (w : World) (b : Nat) (c : Int) (k : Nat) (hk : k < 3) :
    Calls Tryz.prog 206 #[.pointer (some ⟨b, 0, none⟩), .int .i32 c, .int .i64 k] w fun e w' => e = .returned (.pointer (some ⟨b, placeI c k, none⟩)) ∧ Fr no w w' := by
  have HP : Hid (placeI c k = if (c == 119 || c == 114) = true then k + 1 else 4) := Lib.hid rfl
  cases h1 : (c == 119)
  case false =>
    cases h2 : (c == 114)
    case false =>
      have HQ : Hid (placeI c k = 4) := Lib.hid (by rw [HP.out, h1, h2]; rfl)
      go_enter Tryz.func206, Tryz.ntmps206
      go_wp2_with fail
      go_ret
      exact ⟨by rw [HQ.out]; rfl, Fr.refl _ _⟩
    have HQ : Hid (placeI c k = k + 1) := Lib.hid (by rw [HP.out, h1, h2]; rfl)
    obtain rfl | rfl | rfl : k = 0 ∨ k = 1 ∨ k = 2 := by omega
    all_goals
      go_enter Tryz.func206, Tryz.ntmps206
      go_wp2_with fail
      refine Lex.region [9, 12] [14] (by kernel_rfl) (by kernel_rfl) ?_
      refine Lex.opens (fun _ => True) (trivial) ?_
      repeat (first
        | (refine Lex.skips (by rfl) ?_; (try simp only [Act.put, List.setIfInBounds_toArray, List.set_cons_zero, List.set_cons_succ]))
        | (refine Lex.quiet (v := ?_) (by rfl) (by rfl) ?_ ?_; rotate_left; (focus (intro w' hS'; go_simp; try rfl)); (try simp only [Act.put, List.setIfInBounds_toArray, List.set_cons_zero, List.set_cons_succ])))
      refine Lex.loud (by rfl) (by rfl) ?_
      intro K' hK'
      go_simp
      refine hK' _ _ (trivial) ?_
      clear hK'
      try simp only [Act.put, List.setIfInBounds_toArray, List.set_cons_zero, List.set_cons_succ]
      repeat (first
        | (refine Lex.skips (by rfl) ?_; (try simp only [Act.put, List.setIfInBounds_toArray, List.set_cons_zero, List.set_cons_succ]))
        | (refine Lex.quiet (v := ?_) (by rfl) (by rfl) ?_ ?_; rotate_left; (focus (intro w' hS'; go_simp; try rfl)); (try simp only [Act.put, List.setIfInBounds_toArray, List.set_cons_zero, List.set_cons_succ])))
      refine Lex.loud (by rfl) (by rfl) ?_
      intro K' hK'
      go_simp
      refine hK' _ _ (trivial) ?_
      clear hK'
      try simp only [Act.put, List.setIfInBounds_toArray, List.set_cons_zero, List.set_cons_succ]
      repeat (first
        | (refine Lex.skips (by rfl) ?_; (try simp only [Act.put, List.setIfInBounds_toArray, List.set_cons_zero, List.set_cons_succ]))
        | (refine Lex.quiet (v := ?_) (by rfl) (by rfl) ?_ ?_; rotate_left; (focus (intro w' hS'; go_simp; try rfl)); (try simp only [Act.put, List.setIfInBounds_toArray, List.set_cons_zero, List.set_cons_succ])))
      refine Lex.done ?_
      refine Lex.ends ?_
      go_wp2_with fail
      go_ret
      exact ⟨by rw [HQ.out]; rfl, ((Fr.refl _ _).drew).alloc _⟩
  have HQ : Hid (placeI c k = k + 1) := Lib.hid (by rw [HP.out, h1]; rfl)
  obtain rfl | rfl | rfl : k = 0 ∨ k = 1 ∨ k = 2 := by omega
  all_goals
    go_enter Tryz.func206, Tryz.ntmps206
    go_wp2_with fail
    refine Lex.region [9, 12] [14] (by kernel_rfl) (by kernel_rfl) ?_
    refine Lex.opens (fun _ => True) (trivial) ?_
    repeat (first
      | (refine Lex.skips (by rfl) ?_; (try simp only [Act.put, List.setIfInBounds_toArray, List.set_cons_zero, List.set_cons_succ]))
      | (refine Lex.quiet (v := ?_) (by rfl) (by rfl) ?_ ?_; rotate_left; (focus (intro w' hS'; go_simp; try rfl)); (try simp only [Act.put, List.setIfInBounds_toArray, List.set_cons_zero, List.set_cons_succ])))
    refine Lex.loud (by rfl) (by rfl) ?_
    intro K' hK'
    go_simp
    refine hK' _ _ (trivial) ?_
    clear hK'
    try simp only [Act.put, List.setIfInBounds_toArray, List.set_cons_zero, List.set_cons_succ]
    repeat (first
      | (refine Lex.skips (by rfl) ?_; (try simp only [Act.put, List.setIfInBounds_toArray, List.set_cons_zero, List.set_cons_succ]))
      | (refine Lex.quiet (v := ?_) (by rfl) (by rfl) ?_ ?_; rotate_left; (focus (intro w' hS'; go_simp; try rfl)); (try simp only [Act.put, List.setIfInBounds_toArray, List.set_cons_zero, List.set_cons_succ])))
    refine Lex.loud (by rfl) (by rfl) ?_
    intro K' hK'
    go_simp
    refine hK' _ _ (trivial) ?_
    clear hK'
    try simp only [Act.put, List.setIfInBounds_toArray, List.set_cons_zero, List.set_cons_succ]
    repeat (first
      | (refine Lex.skips (by rfl) ?_; (try simp only [Act.put, List.setIfInBounds_toArray, List.set_cons_zero, List.set_cons_succ]))
      | (refine Lex.quiet (v := ?_) (by rfl) (by rfl) ?_ ?_; rotate_left; (focus (intro w' hS'; go_simp; try rfl)); (try simp only [Act.put, List.setIfInBounds_toArray, List.set_cons_zero, List.set_cons_succ])))
    refine Lex.done ?_
    refine Lex.ends ?_
    go_wp2_with fail
    go_ret
    exact ⟨by rw [HQ.out]; rfl, ((Fr.refl _ _).drew).alloc _⟩

end Go.Proofs.YtihnkijeefkefaaGreat

namespace Go.Proofs.YtihnkijeefkefaaGreat
open Go.RowKit

attribute [local go_sem] Program.isFuncB Program.isSliceB

variable {w w' w'' w0 : World}

/-! ### what an instruction's bytes are -/
def toU (z : Int) : Nat := (z % 18446744073709551616).toNat
theorem toU_lt (z : Int) : toU z < 18446744073709551616 := by unfold toU; omega
def stepE (A B C N : Int) (l : List Int) (st : List Nat × Nat) (c : UInt8) : List Nat × Nat :=
  if c = 108 then (st.1 ++ (l.length :: l.map Int.toNat), st.2)
  else (st.1 ++ le (toU (fieldI A B C N c.toNat st.2)) (widthOf c.toNat), if regB c.toNat = true then st.2 + 1 else st.2)
def encSt (o A B C N : Int) (l : List Int) (s : List UInt8) : List Nat × Nat := s.foldl (stepE A B C N l) ([o.toNat], 0)
def enc (o A B C N : Int) (l : List Int) : List Nat := (encSt o A B C N l (sh o)).1
theorem encSt_snoc (o A B C N : Int) (l : List Int) (s : List UInt8) (c : UInt8) : encSt o A B C N l (s ++ [c]) = stepE A B C N l (encSt o A B C N l s) c := by simp [encSt]
theorem stepE_len (A B C N : Int) (l : List Int) (st : List Nat × Nat) (c : UInt8) (hl : l.length ≤ 8) : (stepE A B C N l st c).1.length ≤ st.1.length + 9 ∧ (stepE A B C N l st c).2 ≤ st.2 + 1 := by
  unfold stepE
  split
  · simp; omega
  · have := widthOf_is c.toNat
    refine ⟨by simp only [List.length_append, le_len]; omega, ?_⟩
    split <;> simp
theorem encSt_len (o A B C N : Int) (l : List Int) (hl : l.length ≤ 8) : ∀ (n : Nat) (s : List UInt8), s.length = n → (encSt o A B C N l s).1.length ≤ 1 + 9 * n ∧ (encSt o A B C N l s).2 ≤ n
  | 0, s, h => by rw [List.length_eq_zero_iff.1 h]; simp [encSt]
  | n + 1, s, h => by
    have hne : s ≠ [] := by rintro rfl; simp at h
    rw [← List.dropLast_concat_getLast hne, encSt_snoc]
    have ih := encSt_len o A B C N l hl n s.dropLast (by simp [h])
    have := stepE_len A B C N l (encSt o A B C N l s.dropLast) (s.getLast hne) hl
    omega
theorem enc_len (o A B C N : Int) (l : List Int) (hl : l.length ≤ 8) : (enc o A B C N l).length ≤ 28 := by
  have h1 := (shape_ok o).size
  have := (encSt_len o A B C N l hl _ (sh o) rfl).1
  unfold enc
  have : (sh o).length ≤ 3 := by unfold sh; rw [blen]; exact h1
  omega

/-- where Put's loop stands -/
structure PS (w wr : World) (it : Nat) (s : ByteArray) (k : Nat) (cs : Array Value) (x : Value) (out : List Nat) : Prop where
  fr : Fr no w wr
  ins : wr.heap[w.heap.size]? = some (.cells cs 112 (0, 0))
  iter : wr.heap[it]? = some (.stringIter s k)
  own : wr.ownsRow (w.heap.size + 1) 5 1 x out.length (u8s out)
  lt : w.heap.size < it
section
variable {wr wr' : World} {it k : Nat} {s : ByteArray} {cs : Array Value} {x x' : Value} {out new : List Nat}
theorem own_it {base n b : Nat} {v : Value} {e : TypeId} {xs : List Value} {s : ByteArray} (h : w.ownsRow base e 1 v n xs) (hb : w.heap[b]? = some (.stringIter s k)) : ∀ i, v.ownBlock = some i → i ≠ b := by
  intro i hi he
  subst he
  rcases h.2 with ⟨rfl, -⟩ | ⟨g, cap, cur, rfl, -, hg, -⟩
  · cases hi
  · have : g = i := by simpa [Value.ownBlock] using hi
    subst this
    rw [hb] at hg
    cases hg
theorem PS.next (h : PS w wr it s k cs x out) : PS w (wr.iterAt it s (k + 1)) it s (k + 1) cs x out := by
  have hr : Fr (only [it]) wr (wr.iterAt it s (k + 1)) := fr_iterAt (Fr.refl _ _) (by simp)
  have h1 := h.lt
  refine ⟨h.fr.trans' hr (fun i hi _ => by simp at hi; omega), hr.heap h.ins (by simp; omega), Lib.iterAt_heap _ _ _ _ _ h.iter, owns_fr h.own hr (fun i hi => by simpa using own_it h.own h.iter i hi), h.lt⟩
theorem PS.to (h : PS w wr it s k cs x out) (r : Fr no wr wr') : PS w wr' it s k cs x out :=
  ⟨h.fr.trans r, r.heap h.ins (by simp), r.heap h.iter (by simp), owns_fr h.own r (by simp), h.lt⟩
theorem PS.app (h : PS w wr it s k cs x out) (ho : wr'.ownsRow (w.heap.size + 1) 5 1 x' (out.length + new.length) (u8s out ++ u8s new)) (hg : wr.grownBy wr' x.ownBlock) : PS w wr' it s k cs x' (out ++ new) := by
  have hr : Fr (fun k => x.ownBlock = some k) wr wr' := (Fr.refl _ wr).grown hg (fun k hk => .inl hk)
  have h1 := h.lt
  refine ⟨h.fr.trans' hr (fun i hi _ => by have := (h.own.lt i hi).1; omega), hr.heap h.ins (fun hi => by have := (h.own.lt _ hi).1; omega), hr.heap h.iter (fun hi => own_it h.own h.iter _ hi rfl), by simpa [u8s] using ho, h.lt⟩
end

theorem fine_ok (w : World) (o A B C N : Int) (u : Value) (l : List Int) (hu : Reads w u 1 l.length (ints l)) (hl : l.length ≤ 100000) :
    Calls Tryz.prog 205 #[insV o A B C N u] w fun e w' => e = .returned (.int .i64 (checkOf o A B C N l 64 4096)) ∧ Fr no w w' := by
  have HI := Lib.hid (insObj w o A B C N u)
  have r0 := (Fr.refl no w).alloc (.cells #[.int .i64 o, .int .i64 A, .int .i64 B, .int .i64 C, .int .i64 N, u] 112)
  have R0 := Lib.hid r0
  have HC := Lib.hid (check_ok (w.alloc (.cells #[.int .i64 o, .int .i64 A, .int .i64 B, .int .i64 C, .int .i64 N, u] 112)) o A B C N 64 4096 u l (hu.fr r0 (by simp)) hl)
  clear r0 hu
  unfold insV at *
  go_enter Tryz.func205, Tryz.ntmps205
  go_wp2_with fail
  refine HC.out.mono ?_
  rintro e w1 ⟨rfl, r1⟩
  have R1 := Lib.hid (R0.out.trans r1)
  clear r1
  go_wp2_with fail
  go_ret
  exact ⟨rfl, R1.out⟩

/-- an instruction that can't be put -/
theorem put_bad (w : World) (o A B C N : Int) (u : Value) (l : List Int) (hu : Reads w u 1 l.length (ints l)) (hl : l.length ≤ 100000) (hne : checkOf o A B C N l 64 4096 ≠ 0) :
    Calls Tryz.prog 185 #[insV o A B C N u] w fun e w' => e = .returned (.tuple #[.slice none 0 0, .int .i64 (checkOf o A B C N l 64 4096)]) ∧ Fr no w w' := by
  have HI := Lib.hid (insObj w o A B C N u)
  have r0 := (Fr.refl no w).alloc (.cells #[.int .i64 o, .int .i64 A, .int .i64 B, .int .i64 C, .int .i64 N, u] 112)
  have R0 := Lib.hid r0
  have HC := Lib.hid (fine_ok (w.alloc (.cells #[.int .i64 o, .int .i64 A, .int .i64 B, .int .i64 C, .int .i64 N, u] 112)) o A B C N u l (hu.fr r0 (by simp)) hl)
  have e1 : (checkOf o A B C N l 64 4096 != 0) = true := by simpa using hne
  generalize checkOf o A B C N l 64 4096 = ck at *
  clear r0 hu hne
  unfold insV at *
  go_enter Tryz.func185, Tryz.ntmps185
  go_wp2_with fail
  refine HC.out.mono ?_
  rintro e w1 ⟨rfl, r1⟩
  have R1 := Lib.hid (R0.out.trans r1)
  clear r1
  go_wp2_with fail
  go_ret2
  exact ⟨rfl, R1.out⟩

end Go.Proofs.YtihnkijeefkefaaGreat

namespace Go.Proofs.YtihnkijeefkefaaGreat
open Go.RowKit

attribute [local go_sem] Program.isFuncB Program.isSliceB

variable {w w' w'' w0 : World}

theorem cells6 {b : Nat} {a0 a1 a2 a3 a4 a5 : Value} {t : TypeId} (h : w.heap[b]? = some (.cells #[a0, a1, a2, a3, a4, a5] t (0, 0))) :
    w.cell? ⟨b, 0, none⟩ = some a0 ∧ w.cell? ⟨b, 1, none⟩ = some a1 ∧ w.cell? ⟨b, 2, none⟩ = some a2 ∧ w.cell? ⟨b, 3, none⟩ = some a3 ∧ w.cell? ⟨b, 4, none⟩ = some a4 ∧ w.cell? ⟨b, 5, none⟩ = some a5 :=
  ⟨cell_of_heap h rfl, cell_of_heap h rfl, cell_of_heap h rfl, cell_of_heap h rfl, cell_of_heap h rfl, cell_of_heap h rfl⟩

theorem owns_row (w : World) (l : List Value) (e : TypeId) (hl : l.length ≤ 1000000) : (w.alloc (.cells l.toArray e)).ownsRow w.heap.size e 1 (.slice (some ⟨w.heap.size, 0, none⟩) l.length l.length) l.length l := by
  refine ⟨by simp, .inr ⟨w.heap.size, l.length, l.toArray, rfl, Nat.le_refl _, heap_new w _, Nat.le_refl _, by unfold maxLen; omega, by simp, by simp⟩⟩

set_option maxRecDepth 100000 in
set_option maxHeartbeats 8000000 in
theorem put_good (w : World) (o : Nat) (A B C N : Int) (u : Value) (l : List Int) (hu : Reads w u 1 l.length (ints l)) (hfine : Fine o A B C N l 64 4096) :
    Calls Tryz.prog 185 #[insV o A B C N u] w fun e w' => ∃ v, e = .returned (.tuple #[v, .int .i64 0]) ∧ w'.ownsRow (w.heap.size + 1) 5 1 v (enc o A B C N l).length (u8s (enc o A B C N l)) ∧ Fr no w w' := by
  have hl8 : l.length ≤ 8 := by have := hfine.few; omega
  have ho33 : o < 33 := by have := hfine.op.2; omega
  have r0 := (Fr.refl no w).alloc (.cells #[.int .i64 o, .int .i64 A, .int .i64 B, .int .i64 C, .int .i64 N, u] 112)
  have R0 := Lib.hid r0
  have HC := fine_ok (w.alloc (.cells #[.int .i64 o, .int .i64 A, .int .i64 B, .int .i64 C, .int .i64 N, u] 112)) o A B C N u l (hu.fr r0 (by simp)) (by omega)
  rw [(fine_iff _ _ _ _ _ _ _ _).2 hfine] at HC
  have HF := Lib.hid HC
  have HU := Lib.hid hu
  have HI0 := Lib.hid (insObj w o A B C N u)
  have FN := Lib.hid hfine
  have HSH := Lib.hid (fun w => shape_all w o)
  have hok := shape_ok o
  have HOK := Lib.hid hok
  have hsz := hok.size
  have HEN := Lib.hid (show enc o A B C N l = (encSt o A B C N l (shapeI o).data.toList).1 from rfl)
  have HLB := Lib.hid (encSt_len o A B C N l hl8)
  have HARG : Hid (∀ z ∈ l, 0 ≤ z ∧ z < 64) := Lib.hid (fun z hz => by
    have h1 := hfine.all
    rw [List.any_eq_true] at h1
    have h2 : ¬ out1 64 z = true := fun h => h1 ⟨z, List.mem_append_right _ hz, h⟩
    simp [out1] at h2
    omega)
  obtain ⟨ua, uc, rfl⟩ := hu.shape
  clear HC hok hu r0
  generalize shapeI o = s at *
  unfold insV at *
  go_enter Tryz.func185, Tryz.ntmps185
  go_wp2_with fail
  refine HF.out.mono ?_
  rintro e w1 ⟨rfl, r1⟩
  have HI1 := Lib.hid (r1.heap HI0.out (by simp))
  have R1 := Lib.hid (R0.out.trans r1)
  have HZ1 := Lib.hid (show w.heap.size < w1.heap.size from (Array.getElem?_eq_some_iff.1 HI1.out).1)
  have r2 := (Fr.refl no w1).alloc (.cells #[.int .u8 o] 5)
  have HI2 := Lib.hid (r2.heap HI1.out (by simp))
  have R2 := Lib.hid (R1.out.trans r2)
  have HO2 := Lib.hid (owns_base (owns_row w1 [.int .u8 o] 5 (by simp)) (base' := w.heap.size + 1) (fun k hk => by have := HZ1.out; simp [Value.ownBlock] at hk; omega))
  obtain ⟨c0, c1, c2, c3, c4, c5⟩ := cells6 HI1.out
  obtain ⟨d0, d1, d2, d3, d4, d5⟩ := cells6 HI2.out
  clear r1 r2 HI0
  go_wp2_with fail
  refine (HSH.out _).mono ?_
  rintro e w3 ⟨rfl, r3⟩
  clear c0 c1 c2 c3 c4 c5 d0 d1 d2 d3 d4 d5
  have HI3 := Lib.hid (r3.heap HI2.out (by simp))
  have R3 := Lib.hid (R2.out.trans r3)
  have HO3 := Lib.hid (owns_fr HO2.out r3 (by simp))
  have HZ3 := Lib.hid (show w.heap.size < w3.heap.size from (Array.getElem?_eq_some_iff.1 HI3.out).1)
  clear r3
  go_wp2_with fail
  have P0 : PS w (w3.iter s 0) w3.heap.size s 0 #[.int .i64 o, .int .i64 A, .int .i64 B, .int .i64 C, .int .i64 N, .slice ua l.length uc] (.slice (some ⟨w1.heap.size, 0, none⟩) 1 1) (encSt o A B C N l (s.data.toList.take 0)).1 :=
    ⟨R3.out.alloc _, ((Fr.refl no w3).alloc _).heap HI3.out (by simp), heap_new w3 _, owns_fr HO3.out ((Fr.refl no w3).alloc _) (by simp), HZ3.out⟩
  have HP0 := Lib.hid P0
  clear P0
  generalize w3.iter s 0 = w4 at *
  generalize w3.heap.size = itb at *
  go_loopw [5, 6] (fun x y wr => ∃ k : Nat, k ≤ s.size ∧ y = .int .i64 ((encSt o A B C N l (s.data.toList.take k)).2 : Nat) ∧ Hid (PS w wr itb s k #[.int .i64 o, .int .i64 A, .int .i64 B, .int .i64 C, .int .i64 N, .slice ua l.length uc] x (encSt o A B C N l (s.data.toList.take k)).1)) (fun _ _ wr => itLeft wr itb)
  case atStart => exact ⟨0, by omega, rfl, HP0⟩
  case round =>
    obtain ⟨k, hk, rfl, hps⟩ := hrel
    obtain ⟨xa, xc, rfl⟩ := owns_shape hps.out.own
    by_cases hks : k < s.size
    · have hnext : ∀ ty, (Instr.next (.pointer (some ⟨itb, 0, none⟩)) true ty).run Tryz.prog wr = .ok (.tuple #[.bool true, .int .i64 k, .int .i32 (s[k]'hks).toNat]) (wr.iterAt itb s (k + 1)) := fun ty =>
        Lib.run_next_ascii_at wr itb s k ty hps.out.iter hks (HOK.out.ascii k hks)
      have HN := Lib.hid hps.out.next
      have MK := Lib.hid hps.out.iter
      have hlb := (HLB.out k (s.data.toList.take k) (blen_take s k hk))
      have HSN : Hid (encSt o A B C N l (s.data.toList.take (k + 1)) = stepE A B C N l (encSt o A B C N l (s.data.toList.take k)) (s[k]'hks)) := Lib.hid (by rw [btake_succ s k hks, encSt_snoc])
      generalize encSt o A B C N l (s.data.toList.take k) = st at *
      obtain ⟨out, kk⟩ := st
      dsimp only at hlb hps HN ⊢
      obtain ⟨hlo, hlk⟩ := hlb
      have HCI : Hid (∀ d : UInt8, ((s[k]'hks).toNat : Int) = d.toNat → s[k]'hks = d) := Lib.hid (fun d e => UInt8.toNat_inj.1 (by omega))
      clear hps
      by_cases h108 : s[k]'hks = 108
      · have e108 : (((s[k]'hks).toNat : Int) == 108) = true := by rw [h108]; rfl
        have HS2 : Hid (encSt o A B C N l (s.data.toList.take (k + 1)) = (out ++ (l.length :: l.map Int.toNat), kk)) := Lib.hid (by rw [HSN.out]; unfold stepE; rw [if_pos h108])
        clear h108
        generalize wr.iterAt itb s (k + 1) = w5 at *
        have r6 := (Fr.refl no w5).alloc (.cells #[.int .u8 l.length] 5)
        have HP6 := Lib.hid (HN.out.to r6)
        obtain ⟨c0, c1, c2, c3, c4, c5⟩ := cells6 HN.out.ins
        clear r6
        go_upto_region 17 with (at_builtin; (refine wpList_append_at rfl (.tmp 58) _ 22 rfl (w.heap.size + 1) 5 (.int .u8 0) 1 1 Tryz.underlying22 Tryz.infoU8 rfl (by decide) _ out.length _ rfl HP6.out.own 1 [.int .u8 (l.length : Nat)] (reads_one _ _ _) int_one (by unfold maxLen; omega) (by omega) (by have := HP6.out.lt; have := (Array.getElem?_eq_some_iff.1 HP6.out.iter).1; omega) ?_); intro ga gc w6 ho hg hb)
        have HP7 : Hid (PS w w6 itb s (k + 1) #[.int .i64 o, .int .i64 A, .int .i64 B, .int .i64 C, .int .i64 N, .slice ua l.length uc] (.slice ga (out.length + 1) gc) (out ++ [l.length])) := Lib.hid (HP6.out.app (new := [l.length]) ho hg)
        clear ho hg hb c0 c1 c2 c3 c4 c5
        obtain ⟨wz, hwz⟩ : ∃ x, x = wr := ⟨_, rfl⟩
        subst hwz
        obtain ⟨c0, c1, c2, c3, c4, c5⟩ := cells6 HP7.out.ins
        go_wp2_with fail
        clear c0 c1 c2 c3 c4 c5
        have hoL : out.length + 1 = (out ++ [l.length]).length := by simp
        rw [hoL]
        clear hoL
        have HP8 : Hid (PS w w6 itb s (k + 1) #[.int .i64 o, .int .i64 A, .int .i64 B, .int .i64 C, .int .i64 N, .slice ua l.length uc] (.slice ga (out ++ [l.length]).length gc) (out ++ [l.length] ++ (l.take 0).map Int.toNat)) := Lib.hid (by simpa using HP7.out)
        have HEQ : Hid (out ++ (l.length :: l.map Int.toNat) = out ++ [l.length] ++ l.map Int.toNat) := Lib.hid (by simp)
        rw [HEQ.out] at HS2
        have hlq : (out ++ [l.length]).length ≤ 40 := by simp; omega
        clear hlo
        generalize out ++ [l.length] = oq at *
        go_loopw [5, 68] (fun x y wr => ∃ j : Nat, j ≤ l.length ∧ y = .int .i64 j ∧ Hid (PS w wr itb s (k + 1) #[.int .i64 o, .int .i64 A, .int .i64 B, .int .i64 C, .int .i64 N, .slice ua l.length uc] x (oq ++ (l.take j).map Int.toNat))) (fun _ y _ => (l.length - intOf y).toNat)
        case atStart => exact ⟨0, by omega, rfl, HP8⟩
        case round =>
          obtain ⟨j, hj, rfl, hps⟩ := hrel
          obtain ⟨ya, yc, rfl⟩ := owns_shape hps.out.own
          have hlen : (oq ++ (l.take j).map Int.toNat).length = oq.length + j := by simp; omega
          have HLN := Lib.hid hlen
          rw [hlen]
          by_cases hjl : j < l.length
          · have hjl' : (j : Int) < l.length := by omega
            obtain ⟨b, o1, rfl, ci⟩ := reads_int (HU.out.fr hps.out.fr (by simp)) hjl
            have hbd := HARG.out l[j] (List.getElem_mem _)
            have HT : Hid ((l.take (j + 1)).map Int.toNat = (l.take j).map Int.toNat ++ [l[j].toNat]) := Lib.hid (by rw [List.take_succ_eq_append_getElem hjl, List.map_append]; rfl)
            generalize l[j] = z at *
            obtain ⟨zn, rfl⟩ : ∃ zn : Nat, z = zn := ⟨z.toNat, by omega⟩
            have HT2 : Hid ((l.take (j + 1)).map Int.toNat = (l.take j).map Int.toNat ++ [zn]) := Lib.hid (by rw [HT.out]; simp)
            have r9 := (Fr.refl no wr).alloc (.cells #[.int .u8 zn] 5)
            have HP9 := Lib.hid (hps.out.to r9)
            have hz256 : zn < 256 := by omega
            clear r9 hbd HT hlen
            go_wp2_with (at_builtin; (refine wpList_append_at rfl (.tmp 72) _ 22 rfl (w.heap.size + 1) 5 (.int .u8 0) 1 1 Tryz.underlying22 Tryz.infoU8 rfl (by decide) _ (oq.length + j) _ rfl (by have := HP9.out.own; rw [HLN.out] at this; exact this) 1 [.int .u8 (zn : Nat)] (reads_one _ _ _) int_one (by unfold maxLen; omega) (by omega) (by have := HP9.out.lt; have := (Array.getElem?_eq_some_iff.1 HP9.out.iter).1; omega) ?_); intro gd ge w8 ho hg hb)
            have HPX : Hid (PS w w8 itb s (k + 1) #[.int .i64 o, .int .i64 A, .int .i64 B, .int .i64 C, .int .i64 N, .slice (some ⟨b, o1, none⟩) l.length uc] (.slice gd (oq.length + j + 1) ge) (oq ++ (l.take (j + 1)).map Int.toNat)) := Lib.hid (by
              have hps9 := HP9.out
              have := hps9.app (new := [zn]) (x' := .slice gd (oq.length + j + 1) ge) (by rw [HLN.out]; exact ho) (by rw [HLN.out]; exact hg)
              rw [HT2.out, ← List.append_assoc]
              exact this)
            clear ho hg hb ci
            go_roundw
            case rel => exact ⟨j + 1, by omega, by go_num, HPX⟩
            case measure => first | (simp [intOf]; done) | (simp [intOf]; omega)
          · obtain rfl : j = l.length := by omega
            have HF2 : Hid (PS w wr itb s (k + 1) #[.int .i64 o, .int .i64 A, .int .i64 B, .int .i64 C, .int .i64 N, .slice ua l.length uc] (.slice ya (oq.length + l.length) yc) (oq ++ l.map Int.toNat)) := Lib.hid (by have := hps.out; rw [HLN.out] at this; rw [List.take_length] at this; exact this)
            clear hlen
            go_wp2_with fail
            go_roundw
            case rel => exact ⟨k + 1, by omega, by rw [HS2.out], by rw [HS2.out]; exact HF2⟩
            case measure => rw [itLeft_at HF2.out.iter, itLeft_at MK.out]; omega
      · have e108 : (((s[k]'hks).toNat : Int) == 108) = false := by rw [beq_eq_false_iff_ne]; exact fun e => h108 (HCI.out 108 e)
        have HS2 : Hid (encSt o A B C N l (s.data.toList.take (k + 1)) = (out ++ le (toU (fieldI A B C N (s[k]'hks).toNat kk)) (widthOf (s[k]'hks).toNat), if regB (s[k]'hks).toNat = true then kk + 1 else kk)) := Lib.hid (by rw [HSN.out]; unfold stepE; rw [if_neg h108])
        clear h108
        have hkk3 : kk < 3 := by omega
        have HPL := Lib.hid (fun w1 => place_ok w1 w.heap.size (((s[k]'hks).toNat : Nat) : Int) kk hkk3)
        have HWD := Lib.hid (fun w1 => width_ok w1 (((s[k]'hks).toNat : Nat) : Int))
        have hwn := widthOf_is (((s[k]'hks).toNat : Nat) : Int)
        have hcell : (wr.iterAt itb s (k + 1)).drew.cell? ⟨w.heap.size, placeI (((s[k]'hks).toNat : Nat) : Int) kk, none⟩ = some (.int .i64 (fieldI A B C N (((s[k]'hks).toNat : Nat) : Int) kk)) := by
          refine cell_of_heap (w := (wr.iterAt itb s (k + 1)).drew) HN.out.ins ?_
          unfold placeI fieldI
          cases regB (((s[k]'hks).toNat : Nat) : Int) with
          | false => rfl
          | true =>
            obtain h | h | h : kk = 0 ∨ kk = 1 ∨ kk = 2 := by omega
            all_goals (rw [h]; rfl)
        have HRB : Hid (regB (((s[k]'hks).toNat : Nat) : Int) = ((((s[k]'hks).toNat : Int) == 119) || (((s[k]'hks).toNat : Int) == 114))) := Lib.hid rfl
        generalize placeI (((s[k]'hks).toNat : Nat) : Int) kk = pl at *
        generalize fieldI A B C N (((s[k]'hks).toNat : Nat) : Int) kk = fv at *
        generalize widthOf (((s[k]'hks).toNat : Nat) : Int) = wn at *
        have hu64 : IntKind.u64.wrap fv = ((toU fv : Nat) : Int) := by
          rw [IntKind.wrap_u64]; unfold toU; omega
        have HWP := Lib.hid (fun w1 => wput_ok w1 (toU fv) wn (toU_lt fv) (by omega))
        have HLE : Hid ((le (toU fv) wn).length = wn) := Lib.hid (le_len _ _)
        generalize toU fv = uf at *
        generalize regB (((s[k]'hks).toNat : Nat) : Int) = rb at *
        have HP5 := Lib.hid (HN.out.to ((Fr.refl no _).drew))
        generalize wr.iterAt itb s (k + 1) = w5 at *
        clear HN
        go_wp2_with fail
        refine Lex.region [2, 7, 8] [14] (by kernel_rfl) (by kernel_rfl) ?_
        refine Lex.opens (fun w' => w'.cell? ⟨w.heap.size, pl, none⟩ = some (.int .i64 fv)) (hcell) ?_
        repeat (first
          | (refine Lex.skips (by rfl) ?_; (try simp only [Act.put, List.setIfInBounds_toArray, List.set_cons_zero, List.set_cons_succ]))
          | (refine Lex.quiet (v := ?_) (by rfl) (by rfl) ?_ ?_; rotate_left; (focus (intro w' hS'; go_simp; try rfl)); (try simp only [Act.put, List.setIfInBounds_toArray, List.set_cons_zero, List.set_cons_succ])))
        refine Lex.loud (by rfl) (by rfl) ?_
        intro K' hK'
        go_simp
        refine (HPL.out _).mono ?_
        rintro e w6 ⟨rfl, r6⟩
        have hcell6 := r6.cell hcell (by simp)
        have HP6 := Lib.hid (HP5.out.to r6)
        clear r6
        refine hK' _ _ (hcell6) ?_
        clear hK'
        try simp only [Act.put, List.setIfInBounds_toArray, List.set_cons_zero, List.set_cons_succ]
        repeat (first
          | (refine Lex.skips (by rfl) ?_; (try simp only [Act.put, List.setIfInBounds_toArray, List.set_cons_zero, List.set_cons_succ]))
          | (refine Lex.quiet (v := ?_) (by rfl) (by rfl) ?_ ?_; rotate_left; (focus (intro w' hS'; go_simp; try rfl)); (try simp only [Act.put, List.setIfInBounds_toArray, List.set_cons_zero, List.set_cons_succ])))
        refine Lex.loud (by rfl) (by rfl) ?_
        intro K' hK'
        go_simp
        refine (HWD.out _).mono ?_
        rintro e w' ⟨rfl, rfl⟩
        refine hK' _ _ (hcell6) ?_
        clear hK'
        try simp only [Act.put, List.setIfInBounds_toArray, List.set_cons_zero, List.set_cons_succ]
        repeat (first
          | (refine Lex.skips (by rfl) ?_; (try simp only [Act.put, List.setIfInBounds_toArray, List.set_cons_zero, List.set_cons_succ]))
          | (refine Lex.quiet (v := ?_) (by rfl) (by rfl) ?_ ?_; rotate_left; (focus (intro w' hS'; go_simp; try rfl)); (try simp only [Act.put, List.setIfInBounds_toArray, List.set_cons_zero, List.set_cons_succ])))
        refine Lex.loud (by rfl) (by rfl) ?_
        intro K' hK'
        go_simp
        refine (HWP.out _).mono ?_
        rintro e w7 ⟨bv, rfl, hbo, r7⟩
        have hcell7 := r7.cell hcell6 (by simp)
        have HP7 := Lib.hid (HP6.out.to r7)
        have HBR := Lib.hid (owns_reads hbo)
        obtain ⟨ba, bc, rfl⟩ := owns_shape hbo
        clear r7 hbo
        refine hK' _ _ (hcell7) ?_
        clear hK'
        try simp only [Act.put, List.setIfInBounds_toArray, List.set_cons_zero, List.set_cons_succ]
        repeat (first
          | (refine Lex.skips (by rfl) ?_; (try simp only [Act.put, List.setIfInBounds_toArray, List.set_cons_zero, List.set_cons_succ]))
          | (refine Lex.quiet (v := ?_) (by rfl) (by rfl) ?_ ?_; rotate_left; (focus (intro w' hS'; go_simp; try rfl)); (try simp only [Act.put, List.setIfInBounds_toArray, List.set_cons_zero, List.set_cons_succ])))
        refine Lex.done ?_
        refine Lex.ends ?_
        clear hcell hcell6 hcell7
        cases h119 : (((s[k]'hks).toNat : Int) == 119)
        all_goals cases h114 : (((s[k]'hks).toNat : Int) == 114)
        all_goals
          have hrb := HRB.out
          rw [h119, h114] at hrb
          simp only [Bool.or_false, Bool.or_true, Bool.or_self] at hrb
          subst hrb
          go_wp2_with (at_builtin; (refine wpList_append_at rfl (.tmp 45) _ 22 rfl (w.heap.size + 1) 5 (.int .u8 0) 1 1 Tryz.underlying22 Tryz.infoU8 rfl (by decide) _ out.length _ rfl HP7.out.own wn _ HBR.out (u8s_one _) (by unfold maxLen; omega) (by omega) (by have := HP7.out.lt; have := (Array.getElem?_eq_some_iff.1 HP7.out.iter).1; omega) ?_); intro gd ge w8 ho hg hb)
          have HPX : Hid (PS w w8 itb s (k + 1) #[.int .i64 o, .int .i64 A, .int .i64 B, .int .i64 C, .int .i64 N, .slice ua l.length uc] (.slice gd (out.length + wn) ge) (out ++ le uf wn)) := Lib.hid (HP7.out.app (new := le uf wn) (by rw [HLE.out]; exact ho) hg)
          clear ho hg hb
          go_roundw
          case rel => exact ⟨k + 1, by omega, by rw [HS2.out]; first | rfl | go_num, by rw [HS2.out]; exact HPX⟩
          case measure => rw [itLeft_at HPX.out.iter, itLeft_at MK.out]; omega
    · obtain rfl : k = s.size := by omega
      have hnext : ∀ ty, (Instr.next (.pointer (some ⟨itb, 0, none⟩)) true ty).run Tryz.prog wr = .ok (.tuple #[.bool false]) wr := fun ty =>
        Lib.run_next_end_at wr itb s s.size ty hps.out.iter (by omega)
      have hall : s.data.toList.take s.size = s.data.toList := by rw [← blen, List.take_length]
      have HQ : Hid (wr.ownsRow (w.heap.size + 1) 5 1 (.slice xa (encSt o A B C N l (s.data.toList.take s.size)).1.length xc) (enc o A B C N l).length (u8s (enc o A B C N l))) := Lib.hid (by have := hps.out.own; rw [HEN.out]; simp only [hall] at this ⊢; exact this)
      clear hall
      go_wp2_with fail
      go_ret2
      exact ⟨_, rfl, HQ.out, hps.out.fr⟩

end Go.Proofs.YtihnkijeefkefaaGreat

namespace Go.Proofs.YtihnkijeefkefaaGreat
open Go.RowKit

attribute [local go_sem] Program.isFuncB Program.isSliceB

variable {w w' w'' w0 : World}

/-- where the document's Put's loop stands -/
structure RS (w wr : World) (cs : Array Value) (x : Value) (out : List Nat) : Prop where
  fr : Fr no w wr
  ins : wr.heap[w.heap.size]? = some (.cells cs 112 (0, 0))
  own : wr.ownsRow (w.heap.size + 1) 5 1 x out.length (u8s out)
section
variable {wr wr' : World} {cs : Array Value} {x x' : Value} {out new : List Nat}
theorem RS.size (h : RS w wr cs x out) : w.heap.size + 1 ≤ wr.heap.size := (Array.getElem?_eq_some_iff.1 h.ins).1
theorem RS.to (h : RS w wr cs x out) (r : Fr no wr wr') : RS w wr' cs x out :=
  ⟨h.fr.trans r, r.heap h.ins (by simp), owns_fr h.own r (by simp)⟩
theorem RS.app (h : RS w wr cs x out) (ho : wr'.ownsRow (w.heap.size + 1) 5 1 x' (out.length + new.length) (u8s out ++ u8s new)) (hg : wr.grownBy wr' x.ownBlock) : RS w wr' cs x' (out ++ new) := by
  have hr : Fr (fun k => x.ownBlock = some k) wr wr' := (Fr.refl _ wr).grown hg (fun k hk => .inl hk)
  refine ⟨h.fr.trans' hr (fun i hi _ => by have := (h.own.lt i hi).1; omega), hr.heap h.ins (fun hi => by have := (h.own.lt _ hi).1; omega), by simpa [u8s] using ho⟩
end

end Go.Proofs.YtihnkijeefkefaaGreat

namespace Go.Proofs.YtihnkijeefkefaaGreat
open Go.RowKit

attribute [local go_sem] Program.isFuncB Program.isSliceB

variable {w w' w'' w0 : World}

/-! ### instructions, and lists of them -/
structure Ix where
  o : Int
  A : Int
  B : Int
  C : Int
  N : Int
  l : List Int
  deriving DecidableEq

def Ix.cells (i : Ix) (u : Value) : List Value := [.int .i64 i.o, .int .i64 i.A, .int .i64 i.B, .int .i64 i.C, .int .i64 i.N, u]
def ckOf (i : Ix) : Int := checkOf i.o i.A i.B i.C i.N i.l 64 4096
/-- the bytes of an instruction; of one that can't be put none -/
def encE (i : Ix) : List Nat := if ckOf i = 0 then enc i.o i.A i.B i.C i.N i.l else []
theorem encE_len (i : Ix) : (encE i).length ≤ 28 := by
  unfold encE
  split
  · rename_i h
    exact enc_len _ _ _ _ _ _ (by have := ((fine_iff _ _ _ _ _ _ _ _).1 h).few; omega)
  · simp

theorem put_any (w : World) (i : Ix) (u : Value) (hu : Reads w u 1 i.l.length (ints i.l)) (hl : i.l.length ≤ 100000) :
    Calls Tryz.prog 185 #[insV i.o i.A i.B i.C i.N u] w fun e w' => ∃ v, e = .returned (.tuple #[v, .int .i64 (ckOf i)]) ∧ w'.ownsRow w.heap.size 5 1 v (encE i).length (u8s (encE i)) ∧ Fr no w w' := by
  by_cases h : ckOf i = 0
  · have hf := (fine_iff _ _ _ _ _ _ _ _).1 h
    obtain ⟨o, ho⟩ : ∃ o : Nat, i.o = o := ⟨i.o.toNat, by have := hf.op.1; omega⟩
    have hE : encE i = enc i.o i.A i.B i.C i.N i.l := by unfold encE; rw [if_pos h]
    rw [hE, h, ho]
    rw [ho] at hf
    refine (put_good w o i.A i.B i.C i.N u i.l hu hf).mono ?_
    rintro e w' ⟨v, he, h1, h2⟩
    exact ⟨v, he, owns_base h1 (fun k hk => by have := (h1.lt k hk).1; omega), h2⟩
  · have hE : encE i = [] := by unfold encE; rw [if_neg h]
    rw [hE]
    refine (put_bad w i.o i.A i.B i.C i.N u i.l hu hl h).mono ?_
    rintro e w' ⟨he, h2⟩
    exact ⟨_, he, World.ownsRow_nil _ _ _ _, h2⟩

/-- an instruction in six cells from a place on -/
structure InsIn (w : World) (b o : Nat) (i : Ix) (u : Value) : Prop where
  cell : ∀ j v, (i.cells u)[j]? = some v → w.cell? ⟨b, o + j, none⟩ = some v
  args : Reads w u 1 i.l.length (ints i.l)
def CodeIn (w : World) (sa : Option Addr) (is : List Ix) : Prop := ∀ k (h : k < is.length), ∃ b o u, sa = some ⟨b, o, none⟩ ∧ InsIn w b (o + k * 6) is[k] u

theorem InsIn.fr {b o : Nat} {i : Ix} {u : Value} (h : InsIn w b o i u) (r : Fr no w w') : InsIn w' b o i u :=
  ⟨fun j v hj => r.cell (h.cell j v hj) (by simp), h.args.fr r (by simp)⟩
theorem CodeIn.fr {sa : Option Addr} {is : List Ix} (h : CodeIn w sa is) (r : Fr no w w') : CodeIn w' sa is := fun k hk => by
  obtain ⟨b, o, u, h1, h2⟩ := h k hk
  exact ⟨b, o, u, h1, h2.fr r⟩
theorem InsIn.six {b o : Nat} {i : Ix} {u : Value} (h : InsIn w b o i u) : w.cell? ⟨b, o, none⟩ = some (.int .i64 i.o) ∧ w.cell? ⟨b, o + 1, none⟩ = some (.int .i64 i.A) ∧ w.cell? ⟨b, o + 2, none⟩ = some (.int .i64 i.B) ∧
    w.cell? ⟨b, o + 3, none⟩ = some (.int .i64 i.C) ∧ w.cell? ⟨b, o + 4, none⟩ = some (.int .i64 i.N) ∧ w.cell? ⟨b, o + 5, none⟩ = some u :=
  ⟨h.cell 0 _ rfl, h.cell 1 _ rfl, h.cell 2 _ rfl, h.cell 3 _ rfl, h.cell 4 _ rfl, h.cell 5 _ rfl⟩

/-- the bytes of some -/
def bytesOf (is : List Ix) : List Nat := is.flatMap encE
theorem bytesOf_snoc (is : List Ix) (i : Ix) : bytesOf (is ++ [i]) = bytesOf is ++ encE i := by simp [bytesOf]
theorem bytesOf_len : ∀ (is : List Ix), (bytesOf is).length ≤ 28 * is.length
  | [] => by simp [bytesOf]
  | i :: is => by
    have := bytesOf_len is
    have h := encE_len i
    simp only [bytesOf, List.flatMap_cons, List.length_append, List.length_cons] at *
    omega
/-- why some can't be joined -/
def joinCk (is : List Ix) : Int := match is.find? (fun i => ckOf i != 0) with | some i => ckOf i | none => if 4096 < (bytesOf is).length then 3 else 0
theorem joinCk_bad (is : List Ix) (k : Nat) (hk : k < is.length) (hpre : ∀ j (_ : j < k) (h : j < is.length), ckOf is[j] = 0) (hb : ckOf is[k] ≠ 0) : joinCk is = ckOf is[k] := by
  unfold joinCk
  have : is.find? (fun i => ckOf i != 0) = some is[k] := by
    rw [List.find?_eq_some_iff_getElem]
    refine ⟨by simpa using hb, k, hk, rfl, fun j hj => ?_⟩
    simpa using hpre j hj (by omega)
  rw [this]
theorem joinCk_good (is : List Ix) (hall : ∀ i ∈ is, ckOf i = 0) : joinCk is = if 4096 < (bytesOf is).length then 3 else 0 := by
  unfold joinCk
  have : is.find? (fun i => ckOf i != 0) = none := by
    rw [List.find?_eq_none]
    intro i hi
    simpa using hall i hi
  rw [this]

end Go.Proofs.YtihnkijeefkefaaGreat

namespace Go.Proofs.YtihnkijeefkefaaGreat
open Go.RowKit

attribute [local go_sem] Program.isFuncB Program.isSliceB

variable {w w' w'' w0 : World}

/-- the bytes of some that can be joined -/
def joinB (is : List Ix) : List Nat := if joinCk is = 0 then bytesOf is else []

set_option maxHeartbeats 4000000 in
theorem join_ok (w : World) (sa : Option Addr) (c : Nat) (is : List Ix) (hin : CodeIn w sa is) (hlen : is.length ≤ 1000) (hargs : ∀ i ∈ is, i.l.length ≤ 1000) :
    Calls Tryz.prog 168 #[.slice sa is.length c] w fun e w' => ∃ v, e = .returned (.tuple #[v, .int .i64 (joinCk is)]) ∧ w'.ownsRow w.heap.size 5 1 v (joinB is).length (u8s (joinB is)) ∧ Fr no w w' := by
  have HIN := Lib.hid hin
  have HAR := Lib.hid hargs
  have HBL := Lib.hid (bytesOf_len)
  clear hin hargs
  go_enter Tryz.func168, Tryz.ntmps168
  go_wp2_with fail
  go_loopw [4, 11] (fun x y wr => ∃ k : Nat, k ≤ is.length ∧ y = .int .i64 k ∧ Hid (∀ j (_ : j < k) (h : j < is.length), ckOf is[j] = 0) ∧ Hid (wr.ownsRow w.heap.size 5 1 x (bytesOf (is.take k)).length (u8s (bytesOf (is.take k)))) ∧ Hid (Fr no w wr)) (fun _ y _ => (is.length - intOf y).toNat)
  case atStart => exact ⟨0, by omega, rfl, Lib.hid (fun j h _ => by omega), Lib.hid (World.ownsRow_nil _ _ _ _), Lib.hid (Fr.refl _ _)⟩
  case round =>
    obtain ⟨k, hk, rfl, hpre, hown, hfr⟩ := hrel
    obtain ⟨xa, xc, rfl⟩ := owns_shape hown.out
    have hbl := HBL.out (is.take k)
    rw [List.length_take, Nat.min_eq_left hk] at hbl
    by_cases hks : k < is.length
    · have hks' : (k : Int) < is.length := by omega
      obtain ⟨b, of, u, rfl, hi⟩ := HIN.out.fr hfr.out k hks
      obtain ⟨ua, uc, rfl⟩ := hi.args.shape
      obtain ⟨c0, c1, c2, c3, c4, c5⟩ := hi.six
      have HARG := Lib.hid hi.args
      have hal := HAR.out is[k] (List.getElem_mem _)
      have HSN : Hid (bytesOf (is.take (k + 1)) = bytesOf (is.take k) ++ encE is[k]) := Lib.hid (by rw [List.take_succ_eq_append_getElem hks, bytesOf_snoc])
      have hel := encE_len is[k]
      have HPP := Lib.hid (fun w1 (h : Fr no wr w1) => put_any w1 is[k] _ (hi.args.fr h (by simp)) (by omega))
      have HBAD : Hid (ckOf is[k] ≠ 0 → joinCk is = ckOf is[k] ∧ joinB is = []) := Lib.hid (fun h => by
        have := joinCk_bad is k hks hpre.out h
        refine ⟨this, ?_⟩
        unfold joinB
        rw [if_neg (by rw [this]; exact h)])
      have HPRE : Hid (ckOf is[k] = 0 → ∀ j (_ : j < k + 1) (h : j < is.length), ckOf is[j] = 0) := Lib.hid (fun h0 j hj h => by
        by_cases he : j = k
        · subst he; exact h0
        · exact hpre.out j (by omega) h)
      generalize ckOf is[k] = ck at *
      generalize encE is[k] = en at *
      generalize is[k] = ix at *
      clear hi
      obtain ⟨io, iA, iB, iC, iN, il⟩ := ix
      dsimp only at c0 c1 c2 c3 c4 c5 hal HARG HPP
      unfold insV at HPP
      generalize bytesOf (is.take k) = bs at *
      have r5 := (Fr.refl no wr).alloc (.cells #[.int .i64 io, .int .i64 iA, .int .i64 iB, .int .i64 iC, .int .i64 iN, .slice ua il.length uc] 112)
      have R5 := Lib.hid (hfr.out.trans r5)
      have HO5 := Lib.hid (owns_fr hown.out r5 (by simp))
      have HP5 := Lib.hid (HPP.out _ r5)
      clear r5
      by_cases hck : ck = 0
      · have e1 : (ck != 0) = false := by simpa using hck
        have HPR := Lib.hid (HPRE.out hck)
        clear hck
        go_wp2_with fail
        refine (HP5.out).mono ?_
        rintro e w6 ⟨v, rfl, hv, r6⟩
        obtain ⟨va, vc, rfl⟩ := owns_shape hv
        have R6 := Lib.hid (R5.out.trans r6)
        have HO6 := Lib.hid (owns_fr HO5.out r6 (by simp))
        have HV6 := Lib.hid (owns_reads hv)
        clear r6 hv c0 c1 c2 c3 c4 c5
        go_wp2_with (at_builtin; (refine wpList_append_at rfl (.tmp 23) _ 22 rfl w.heap.size 5 (.int .u8 0) 1 1 Tryz.underlying22 Tryz.infoU8 rfl (by decide) _ bs.length _ rfl HO6.out en.length _ HV6.out (u8s_one _) (by unfold maxLen; omega) (by omega) R6.out.size ?_); intro ga gc w7 ho hg hb)
        have HO7 : Hid (w7.ownsRow w.heap.size 5 1 (.slice ga (bs.length + en.length) gc) (bytesOf (is.take (k + 1))).length (u8s (bytesOf (is.take (k + 1))))) := Lib.hid (by rw [HSN.out, List.length_append, show u8s (bs ++ en) = u8s bs ++ u8s en from by simp [u8s]]; exact ho)
        have R7 := Lib.hid (R6.out.trans' ((Fr.refl (fun k => (Value.slice xa bs.length xc).ownBlock = some k) _).grown hg (fun k hk => .inl hk)) (fun k hk _ => (hown.out.lt k hk).1))
        clear ho hg hb
        go_roundw
        case rel => exact ⟨k + 1, by omega, by go_num, HPR, HO7, R7⟩
        case measure => first | (simp [intOf]; done) | (simp [intOf]; omega)
      · have e1 : (ck != 0) = true := by simpa using hck
        have HB := Lib.hid (HBAD.out hck)
        clear hck
        go_wp2_with fail
        refine (HP5.out).mono ?_
        rintro e w6 ⟨v, rfl, hv, r6⟩
        obtain ⟨va, vc, rfl⟩ := owns_shape hv
        have R6 := Lib.hid (R5.out.trans r6)
        clear r6 hv c0 c1 c2 c3 c4 c5
        go_wp2_with fail
        go_ret2
        exact ⟨_, by rw [HB.out.1]; rfl, by rw [HB.out.2]; exact World.ownsRow_nil _ _ _ _, R6.out⟩
    · obtain rfl : k = is.length := by omega
      have HJ : Hid (joinCk is = if 4096 < (bytesOf is).length then 3 else 0) := Lib.hid (joinCk_good is (fun i hi => by
        obtain ⟨j, hj, rfl⟩ := List.getElem_of_mem hi
        exact hpre.out j hj hj))
      have HJB : Hid (joinB is = if joinCk is = 0 then bytesOf is else []) := Lib.hid rfl
      have hown2 := hown.out
      rw [List.take_length] at hown2 ⊢
      have HO2 := Lib.hid hown2
      clear hown2 hown hbl
      generalize bytesOf is = bs at *
      by_cases h4 : 4096 < bs.length
      · have h4' : (4096 : Int) < bs.length := by omega
        have HJ2 : Hid (joinCk is = 3 ∧ joinB is = []) := Lib.hid (by
          have : joinCk is = 3 := by rw [HJ.out, if_pos h4]
          exact ⟨this, by rw [HJB.out, if_neg (by rw [this]; decide)]⟩)
        go_wp2_with fail
        go_ret2
        exact ⟨_, by rw [HJ2.out.1]; rfl, by rw [HJ2.out.2]; exact World.ownsRow_nil _ _ _ _, hfr.out⟩
      · have h4' : ¬ (4096 : Int) < bs.length := by omega
        have HJ2 : Hid (joinCk is = 0 ∧ joinB is = bs) := Lib.hid (by
          have : joinCk is = 0 := by rw [HJ.out, if_neg h4]
          exact ⟨this, by rw [HJB.out, if_pos this]⟩)
        go_wp2_with fail
        go_ret2
        exact ⟨_, by rw [HJ2.out.1]; rfl, by rw [HJ2.out.2]; exact HO2.out, hfr.out⟩

end Go.Proofs.YtihnkijeefkefaaGreat

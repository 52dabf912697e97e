import Derived.Test.YtihnkijeefkefaaGreatQ2
set_option linter.unusedSimpArgs false
set_option linter.unusedVariables false
set_option linter.unusedSectionVars false
set_option linter.unnecessarySimpa false
set_option maxRecDepth 100000
/- Access to the program's memory. -/
namespace Go.Proofs.YtihnkijeefkefaaGreat
open Go.RowKit

attribute [local go_sem] Program.isFuncB Program.isSliceB

variable {w w' w'' w0 : World} {q g n c : Nat} {bs : List Nat}

theorem access_out (w : World) (a k : Nat) (fv : Value) (h : MemAt w q g n c bs) (ha : a < 18446744073709551616) (hk : k ≤ 65536) (hn : n ≤ 65536) (hin : inB n a k = false) :
    Calls Tryz.prog 70 #[.pointer (some ⟨q, 0, none⟩), .int .u64 a, .int .i64 k, .bool true, fv] w fun e w' => e = .returned (.int .i64 15) ∧ w = w' := by
  have HN := Lib.hid (fun w h => memnone_ok (q := q) (g := g) (n := n) (c := c) (bs := bs) w h)
  have HC := Lib.hid (cut_ok w a k h ha hk hn)
  have H := Lib.hid h
  have HIN := Lib.hid hin
  clear h hin
  go_enter Tryz.func70, Tryz.ntmps70
  go_wp2_with fail
  refine (HN.out _ H.out).mono ?_
  rintro e w' ⟨rfl, rfl⟩
  go_wp2_with fail
  refine HC.out.mono ?_
  rintro e w' ⟨hc, rfl⟩
  rcases hc with ⟨-, rfl⟩ | ⟨h1, -⟩
  · go_wp2_with fail
    go_ret
    exact ⟨rfl, rfl⟩
  · exact absurd (HIN.out.symm.trans h1) (by decide)
theorem access_in1 (w : World) (a k F : Nat) (p1 p2 : Value) (R : World → Prop) (h : MemAt w q g n c bs) (ha : a < 18446744073709551616) (hk : k ≤ 65536) (hn : n ≤ 65536) (hin : inB n a k = true)
    (hcf : ∀ (x : Value) (w : World), (callFunc F #[x, p1]).run Tryz.prog w = .ok (.enter F #[x, p1]) w)
    (HF : ∀ o, (0 < k → o = a) → Calls Tryz.prog F #[.slice (some ⟨g, o, none⟩) k k, p1] w fun e w' => e = .returned (.tuple #[]) ∧ R w') :
    Calls Tryz.prog 70 #[.pointer (some ⟨q, 0, none⟩), .int .u64 a, .int .i64 k, .bool true, .func (.func F) #[] #[p1]] w fun e w' => e = .returned (.int .i64 0) ∧ R w' := by
  have HN := Lib.hid (fun w h => memnone_ok (q := q) (g := g) (n := n) (c := c) (bs := bs) w h)
  have HC := Lib.hid (cut_ok w a k h ha hk hn)
  have HF := Lib.hid HF
  have H := Lib.hid h
  have HIN := Lib.hid hin
  clear h hin
  go_enter Tryz.func70, Tryz.ntmps70
  go_wp2_with fail
  refine (HN.out _ H.out).mono ?_
  rintro e w' ⟨rfl, rfl⟩
  go_wp2_with fail
  refine HC.out.mono ?_
  rintro e w' ⟨hc, rfl⟩
  rcases hc with ⟨h1, -⟩ | ⟨-, o, ho, rfl⟩
  · exact absurd (HIN.out.symm.trans h1) (by decide)
  · go_wp2_with fail
    refine (HF.out o ho).mono ?_
    rintro e w1 ⟨rfl, hR⟩
    have HR := Lib.hid hR
    clear hR
    go_wp2_with fail
    go_ret
    exact ⟨rfl, HR.out⟩
theorem access_in2 (w : World) (a k F : Nat) (p1 p2 : Value) (R : World → Prop) (h : MemAt w q g n c bs) (ha : a < 18446744073709551616) (hk : k ≤ 65536) (hn : n ≤ 65536) (hin : inB n a k = true)
    (hcf : ∀ (x : Value) (w : World), (callFunc F #[x, p1, p2]).run Tryz.prog w = .ok (.enter F #[x, p1, p2]) w)
    (HF : ∀ o, (0 < k → o = a) → Calls Tryz.prog F #[.slice (some ⟨g, o, none⟩) k k, p1, p2] w fun e w' => e = .returned (.tuple #[]) ∧ R w') :
    Calls Tryz.prog 70 #[.pointer (some ⟨q, 0, none⟩), .int .u64 a, .int .i64 k, .bool true, .func (.func F) #[] #[p1, p2]] w fun e w' => e = .returned (.int .i64 0) ∧ R w' := by
  have HN := Lib.hid (fun w h => memnone_ok (q := q) (g := g) (n := n) (c := c) (bs := bs) w h)
  have HC := Lib.hid (cut_ok w a k h ha hk hn)
  have HF := Lib.hid HF
  have H := Lib.hid h
  have HIN := Lib.hid hin
  clear h hin
  go_enter Tryz.func70, Tryz.ntmps70
  go_wp2_with fail
  refine (HN.out _ H.out).mono ?_
  rintro e w' ⟨rfl, rfl⟩
  go_wp2_with fail
  refine HC.out.mono ?_
  rintro e w' ⟨hc, rfl⟩
  rcases hc with ⟨h1, -⟩ | ⟨-, o, ho, rfl⟩
  · exact absurd (HIN.out.symm.trans h1) (by decide)
  · go_wp2_with fail
    refine (HF.out o ho).mono ?_
    rintro e w1 ⟨rfl, hR⟩
    have HR := Lib.hid hR
    clear hR
    go_wp2_with fail
    go_ret
    exact ⟨rfl, HR.out⟩

end Go.Proofs.YtihnkijeefkefaaGreat

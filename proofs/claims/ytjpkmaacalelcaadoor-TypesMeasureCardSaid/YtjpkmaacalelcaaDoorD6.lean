/- Structs' names that are plain (law24). -/
import Derived.Test.YtjpkmaacalelcaaDoorD4
import Derived.Test.YtjpkmaacalelcaaDoorY17
set_option linter.unusedSimpArgs false
set_option linter.unusedVariables false
set_option linter.unusedSectionVars false
set_option linter.unnecessarySimpa false
set_option maxRecDepth 100000
namespace Go.Proofs.YtjpkmaacalelcaaDoor
open Go.RowKit Go.Ty Go.Deep

attribute [local go_sem] Program.isFuncB Program.isSliceB

variable {w w' w'' w0 : World}

def bases10 : List ByteArray := [⟨#[118, 111, 105, 100]⟩, ⟨#[115, 56]⟩, ⟨#[117, 56]⟩, ⟨#[115, 49, 54]⟩, ⟨#[117, 49, 54]⟩, ⟨#[115, 51, 50]⟩, ⟨#[117, 51, 50]⟩, ⟨#[115, 54, 52]⟩, ⟨#[117, 54, 52]⟩, ⟨#[]⟩]
def PlainAt (l : List St) (i : Nat) (h : i < l.length) : Prop := l[i].nm ∉ bases10 ∧ (∀ k (hk : k < i), l[k].nm ≠ l[i].nm) ∧ (32 : UInt8) ∉ l[i].nm.data.toList
def PlainS (l : List St) : Prop := ∀ i (h : i < l.length), PlainAt l i h
def PlainR (w : World) (l : List St) (e : Ending) (w' : World) : Prop := ∃ q : Bool, e = .returned (.bool q) ∧ (q = true → PlainS l) ∧ Fr no w w'
theorem PlainR.of {l : List St} (q : Bool) (hq : q = true → PlainS l) (r : Fr no w w') : PlainR w l (.returned (.bool q)) w' := ⟨q, rfl, hq, r⟩
def strs (l : List ByteArray) : List Value := l.map .string

set_option maxRecDepth 100000 in
set_option maxHeartbeats 8000000 in
theorem plain_ok (w : World) (sa : Option Addr) (sc : Nat) (l : List St) (hs : SlIn w sa l) (hl : l.length ≤ 1000) (hn : ∀ s ∈ l, s.nm.size ≤ 1000) :
    Calls Tryd.prog 34 #[.slice sa l.length sc] w (PlainR w l) := by
  have HS := Lib.hid hs
  have HN := Lib.hid hn
  clear hs hn
  go_enter Tryd.func34, Tryd.ntmps34
  go_upto_region 3 with fail
  have rb := (Fr.refl no w).alloc (.cells (strs bases10).toArray 9)
  have hb := heap_new w (.cells (strs bases10).toArray 9)
  have HS0 := Lib.hid (HS.out.fr rb)
  have R0 := Lib.hid rb
  have HB := Lib.hid hb
  clear rb hb HS
  change Code.wp _ _ _ _ (w.alloc (.cells (strs bases10).toArray 9))
  generalize w.alloc (.cells (strs bases10).toArray 9) = w1 at *
  generalize w.heap.size = BB at *
  go_loopw [4, 5, 6, 7] (fun x _ _ _ wr => ∃ i : Nat, x = .int .i64 i ∧ i ≤ l.length ∧ Hid (∀ j (h : j < l.length), j < i → PlainAt l j h) ∧ Hid (Fr no w1 wr)) (fun x _ _ _ _ => (l.length - intOf x).toNat)
  case atStart => exact ⟨0, rfl, by omega, Lib.hid (fun j h h0 => by omega), Lib.hid (Fr.refl _ _)⟩
  case round =>
    obtain ⟨i, rfl, hi, hpre, hfr⟩ := hrel
    by_cases hlt : i < l.length
    case neg =>
      obtain rfl : i = l.length := by omega
      have HQ : Hid (PlainS l) := Lib.hid (fun j h => hpre.out j h h)
      have RF := Lib.hid (R0.out.trans hfr.out)
      clear hpre hlt
      go_wp2_with fail
      go_ret
      exact PlainR.of true (fun _ => HQ.out) RF.out
    have hlt' : (i : Int) < l.length := by omega
    obtain ⟨b, o, fa, fc, rfl, hA, -⟩ := HS0.out i hlt
    have d0 := hA 0 _ rfl
    rw [Nat.add_zero] at d0
    have D0 := Lib.hid d0
    have hnz := HN.out l[i] (List.getElem_mem hlt)
    have HPA : Hid (PlainAt l i hlt ↔ l[i].nm ∉ bases10 ∧ (∀ k (hk : k < i), l[k].nm ≠ l[i].nm) ∧ (32 : UInt8) ∉ l[i].nm.data.toList) := Lib.hid Iff.rfl
    have HNX : Hid (PlainAt l i hlt → ∀ j (h : j < l.length), j < i + 1 → PlainAt l j h) := Lib.hid (fun hw j h hj => by
      rcases Nat.lt_or_ge j i with h2 | h2
      · exact hpre.out j h h2
      · have : j = i := by omega
        subst this; exact hw)
    clear hA hpre d0
    have HTR := Lib.hid (fun k (hk : k < l.length) => HS0.out k hk)
    obtain ⟨nm, hnm⟩ : ∃ x, x = l[i].nm := ⟨_, rfl⟩
    rw [← hnm] at D0 hnz HPA
    clear hnm
    go_upto_region 6 with fail
    obtain ⟨wz, hwz⟩ : ∃ x, x = wr := ⟨_, rfl⟩
    subst hwz
    go_loopw [5] (fun y wr => ∃ k : Nat, y = .int .i64 k ∧ k ≤ 10 ∧ Hid (nm ∉ bases10.take k) ∧ Hid (Fr no wz wr)) (fun y _ => (10 - intOf y).toNat)
    case atStart => exact ⟨0, rfl, by omega, Lib.hid (by simp), Lib.hid (Fr.refl _ _)⟩
    case round =>
      obtain ⟨k, rfl, hk, hno, hfr2⟩ := hrel
      have c0 := (hfr.out.trans hfr2.out).cell D0.out (by simp)
      by_cases hkl : k < 10
      · have hkl' : (k : Int) < 10 := by omega
        have hk2 : k < bases10.length := hkl
        have c2 : wr.cell? ⟨BB, k, none⟩ = some (.string bases10[k]) := cell_of_heap ((hfr.out.trans hfr2.out).heap HB.out (by simp)) (by simp [strs, hk2])
        have HT : Hid (nm ≠ bases10[k] → nm ∉ bases10.take (k + 1)) := Lib.hid (fun h1 h2 => by
          rw [List.take_succ_eq_append_getElem hk2, List.mem_append, List.mem_singleton] at h2
          rcases h2 with h2 | h2
          · exact hno.out h2
          · exact h1 h2)
        have RF := Lib.hid (R0.out.trans (hfr.out.trans hfr2.out))
        generalize bases10[k] = bs at *
        by_cases he : nm = bs
        · have hc : (nm.toList == bs.toList) = true := by rw [bytes_eq, decide_eq_true he]
          clear he hno
          go_wp2_with fail
          go_quiet (fail)
          go_wp2_with fail
          go_ret
          exact PlainR.of false (fun h => by cases h) (RF.out.drewN _)
        · have hc : (nm.toList == bs.toList) = false := by rw [bytes_eq, decide_eq_false he]
          have HT2 := Lib.hid (HT.out he)
          clear he hno
          go_wp2_with fail
          go_quiet (fail)
          go_wp2_with fail
          go_roundw
          case rel => exact ⟨k + 1, by go_num, by omega, HT2, Lib.hid (hfr2.out.drewN _)⟩
          case measure => first | (simp [intOf]; done) | (simp [intOf]; omega)
      · obtain rfl : k = 10 := by omega
        have HNB : Hid (nm ∉ bases10) := hno
        clear hkl hno c0
        go_upto_region 11 with fail
        obtain ⟨wy, hwy⟩ : ∃ x, x = wr := ⟨_, rfl⟩
        subst hwy
        have R2 := Lib.hid (hfr.out.trans hfr2.out)
        go_loopw [6] (fun y wr => ∃ k : Nat, y = .int .i64 k ∧ k ≤ i ∧ Hid (∀ j (h : j < l.length), j < k → l[j].nm ≠ nm) ∧ Hid (Fr no w1 wr)) (fun y _ => (i - intOf y).toNat)
        case atStart => exact ⟨0, rfl, by omega, Lib.hid (fun j h h0 => by omega), R2⟩
        case round =>
          obtain ⟨k, rfl, hk, hno, hfr3⟩ := hrel
          have c0 := hfr3.out.cell D0.out (by simp)
          have RF := Lib.hid (R0.out.trans hfr3.out)
          by_cases hkl : k < i
          · have hkl' : (k : Int) < i := by omega
            have hkn : k < l.length := by omega
            have hkn' : (k : Int) < l.length := by omega
            obtain ⟨b', o', fa', fc', e', hA', -⟩ := HTR.out k hkn
            cases e'
            have c2 := hfr3.out.cell (hA' 0 _ rfl) (by simp)
            rw [Nat.add_zero] at c2
            have HT : Hid (l[k].nm ≠ nm → ∀ j (h : j < l.length), j < k + 1 → l[j].nm ≠ nm) := Lib.hid (fun h1 j h hj => by
              rcases Nat.lt_or_ge j k with h2 | h2
              · exact hno.out j h h2
              · have : j = k := by omega
                subst this; exact h1)
            clear hA'
            generalize l[k].nm = bs at *
            by_cases he : bs = nm
            · have hc : (bs.toList == nm.toList) = true := by rw [bytes_eq, decide_eq_true he]
              clear he hno
              go_wp2_with fail
              go_quiet (fail)
              go_wp2_with fail
              go_ret
              exact PlainR.of false (fun h => by cases h) (RF.out.drewN _)
            · have hc : (bs.toList == nm.toList) = false := by rw [bytes_eq, decide_eq_false he]
              have HT2 := Lib.hid (HT.out he)
              clear he hno
              go_wp2_with fail
              go_quiet (fail)
              go_wp2_with fail
              go_roundw
              case rel => exact ⟨k + 1, by go_num, by omega, HT2, Lib.hid (hfr3.out.drewN _)⟩
              case measure => first | (simp [intOf]; done) | (simp [intOf]; omega)
          · obtain rfl : k = i := by omega
            have HND : Hid (∀ j (hk : j < k), l[j].nm ≠ nm) := Lib.hid (fun j hj => hno.out j (by omega) hj)
            clear hkl hno c0
            go_upto_region 16 with fail
            obtain ⟨wx, hwx⟩ : ∃ x, x = wr := ⟨_, rfl⟩
            subst hwx
            go_loopw [7] (fun y wr => ∃ m : Nat, y = .int .i64 m ∧ m ≤ nm.size ∧ Hid ((32 : UInt8) ∉ nm.data.toList.take m) ∧ Hid (Fr no w1 wr)) (fun y _ => (nm.size - intOf y).toNat)
            case atStart => exact ⟨0, rfl, by omega, Lib.hid (by simp), hfr3⟩
            case round =>
              obtain ⟨m, rfl, hm, hno, hfr4⟩ := hrel
              have c0 := hfr4.out.cell D0.out (by simp)
              have RF := Lib.hid (R0.out.trans hfr4.out)
              by_cases hml : m < nm.size
              · have hml' : (m : Int) < nm.size := by omega
                have hmt : m < nm.data.toList.length := hml
                have hbe : nm[m] = nm.data.toList[m] := rfl
                have HT : Hid (nm.data.toList[m] ≠ 32 → (32 : UInt8) ∉ nm.data.toList.take (m + 1)) := Lib.hid (fun h1 h2 => by
                  rw [List.take_succ_eq_append_getElem hmt, List.mem_append, List.mem_singleton] at h2
                  rcases h2 with h2 | h2
                  · exact hno.out h2
                  · exact h1 h2.symm)
                have HBE := Lib.hid hbe
                by_cases he : nm[m] = 32
                · have hc : ((nm[m].toNat : Int) == 32) = true := by rw [he]; rfl
                  clear he hno hbe
                  go_wp2_with fail
                  go_ret
                  exact PlainR.of false (fun h => by cases h) RF.out
                · have hc : ((nm[m].toNat : Int) == 32) = false := by
                    rw [beq_eq_false_iff_ne]
                    intro h
                    exact he (by apply UInt8.toNat_inj.1; show nm[m].toNat = 32; omega)
                  have HT2 := Lib.hid (HT.out (by rw [← hbe]; exact he))
                  clear he hno hbe
                  go_wp2_with fail
                  go_roundw
                  case rel => exact ⟨m + 1, by go_num, by omega, HT2, hfr4⟩
                  case measure => first | (simp [intOf]; done) | (simp [intOf]; omega)
              · obtain rfl : m = nm.size := by omega
                have HW : Hid (∀ j (h : j < l.length), j < k + 1 → PlainAt l j h) := Lib.hid (HNX.out (HPA.out.2 ⟨HNB.out, HND.out, by
                  have := hno.out
                  rwa [List.take_of_length_le (show nm.data.toList.length ≤ nm.size from Nat.le_refl _)] at this⟩))
                clear hml hno
                go_wp2_with fail
                go_roundw
                case rel => exact ⟨k + 1, by go_num, by omega, HW, hfr4⟩
                case measure => first | (simp [intOf]; done) | (simp [intOf]; omega)

end Go.Proofs.YtjpkmaacalelcaaDoor

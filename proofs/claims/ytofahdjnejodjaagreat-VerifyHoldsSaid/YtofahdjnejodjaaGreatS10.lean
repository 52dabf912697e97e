/- sure.Unset. -/
import Derived.Test.YtofahdjnejodjaaGreatS9
set_option linter.unusedSimpArgs false
set_option linter.unusedVariables false
set_option linter.unusedSectionVars false
set_option linter.unnecessarySimpa false
namespace Go.Proofs.YtofahdjnejodjaaGreat
open Go.RowKit Go.Flow Go.Sure

attribute [local go_sem] Program.isFuncB Program.isSliceB

variable {w w' w'' w0 : World}

def readsI (i : Ix) : List Int := readsOf i.o i.A i.B i.C i.l
def badAt (m : Nat) (r : Int) : Bool := !(m.testBit r.toNat)
def unsetL : List Ix → List Nat → Nat → Int × Int
  | x :: is, m :: ms, i => match (readsI x).find? (badAt m) with
    | some r => ((i : Int), r)
    | none => unsetL is ms (i + 1)
  | _, _, _ => (-1, -1)
def UnsetPost (w : World) (ck : Int) (is : List Ix) (p : Nat) (e : Ending) (w' : World) : Prop :=
  ∃ a b, e = .returned (.tuple #[.int .i64 a, .int .i64 b, .int .i64 ck]) ∧ (ck ≠ 0 → a = 0 ∧ b = 0) ∧ (ck = 0 → ∃ ms, Tells is.length p (nx (fis is)) (wrN is) ms ∧ unsetL is ms 0 = (a, b)) ∧ Fr no w w'

theorem and_pow (m k : Nat) : (m &&& 2 ^ k == 0) = !(m.testBit k) := by
  cases h : m.testBit k
  · have : m &&& 2 ^ k = 0 := Nat.eq_of_testBit_eq (fun j => by
      rw [Nat.testBit_and, Nat.testBit_two_pow, Nat.zero_testBit]
      by_cases e : k = j
      · subst e; simp [h]
      · simp [e])
    simp [this]
  · have : m &&& 2 ^ k ≠ 0 := fun e => by
      have := congrArg (fun z => z.testBit k) e
      simp [Nat.testBit_and, h, Nat.testBit_two_pow_self] at this
    simpa using this

theorem find_at {α : Type} {f : α → Bool} : ∀ (l : List α) (k : Nat) (hk : k < l.length), (∀ y ∈ l.take k, f y = false) → f l[k] = true → l.find? f = some l[k]
  | x :: l, 0, _, _, h => by simp at h; simp [h]
  | x :: l, k + 1, hk, hb, h => by
    have hx := hb x (by simp)
    rw [List.find?_cons_of_neg (by simp [hx])]
    exact find_at l k (by simpa using hk) (fun y hy => hb y (by simp [hy])) (by simpa using h)
theorem masksCk_ok {p : Int} {is : List Ix} (h : masksCk p is = 0) : flowCk is = 0 ∧ 0 ≤ p ∧ p ≤ 8 := by
  unfold masksCk at h
  split at h
  · omega
  · exact ⟨h, by omega, by omega⟩

set_option maxRecDepth 100000 in
set_option maxHeartbeats 8000000 in
theorem sunset_ok (w : World) (sa : Option Addr) (c : Nat) (is : List Ix) (p : Int) (hin : CodeIn w sa is) (hlen : is.length ≤ 70) (hargs : ∀ i ∈ is, i.l.length ≤ 1000) (hN : ∀ i ∈ is, rng i.N) :
    Calls Tryz.prog 14 #[.slice sa is.length c, .int .i64 p] w (UnsetPost w (masksCk p is) is p.toNat) := by
  have HMA := Lib.hid (masks_ok w sa c is p hin hlen hargs hN)
  have HCK : Hid (masksCk p is = 0 → ∀ i ∈ is, ckOf i = 0) := Lib.hid (fun h => (joinCk_zero is (flowCk_join (masksCk_ok h).1)).1)
  have HIN := Lib.hid hin
  have HAR := Lib.hid hargs
  generalize masksCk p is = ck at *
  clear hin hargs hN
  go_enter Tryz.func14, Tryz.ntmps14
  go_wp2_with fail
  refine HMA.out.mono ?_
  rintro e w1 ⟨u, rfl, hbad, hgood, r1⟩
  have R1 := Lib.hid r1
  clear r1 HMA
  by_cases hj : ck = 0
  case neg =>
    have HJ := Lib.hid hj
    have e1 : (ck != 0) = true := by simpa using hj
    clear hj hbad hgood
    go_wp2_with fail
    go_ret3
    exact ⟨0, 0, rfl, fun _ => ⟨rfl, rfl⟩, fun h => absurd h HJ.out, R1.out⟩
  obtain ⟨ms, ht, ho⟩ := hgood hj
  have HC := Lib.hid (HCK.out hj)
  subst hj
  obtain ⟨ma, mc, rfl⟩ := owns_shape ho
  have HT := Lib.hid ht
  have HO := Lib.hid (owns_reads ho)
  clear hbad hgood ht ho HCK
  go_wp2_with fail
  go_loopw [24] (fun x wr => ∃ i : Nat, x = .int .i64 i ∧ Hid (i ≤ is.length) ∧ Hid (unsetL (is.drop i) (ms.drop i) i = unsetL is ms 0) ∧ Hid (Fr no w1 wr)) (fun x _ => is.length - nOf x)
  case atStart => exact ⟨0, rfl, Lib.hid (by omega), Lib.hid (by simp), Lib.hid (Fr.refl _ _)⟩
  case round =>
    obtain ⟨i, rfl, hi0, HU, HR⟩ := hrel
    obtain ⟨wo, hwo⟩ : ∃ x, x = wr := ⟨_, rfl⟩
    subst hwo
    by_cases hil : i = is.length
    · have HUU : Hid (unsetL is ms 0 = (-1, -1)) := Lib.hid (by rw [← HU.out, hil, List.drop_length]; rfl)
      subst hil
      go_wp2_with fail
      go_ret3
      exact ⟨-1, -1, rfl, fun h => absurd rfl h, fun _ => ⟨ms, HT.out, HUU.out⟩, R1.out.trans HR.out⟩
    · have hi : i < is.length := by have := hi0.out; omega
      have hi' : (i : Int) < is.length := by omega
      have HI1 : Hid (i + 1 ≤ is.length) := Lib.hid hi
      have him : i < ms.length := by rw [HT.out.len]; exact hi
      obtain ⟨b1, o1, u1, rfl, h1⟩ := HIN.out.fr (R1.out.trans HR.out) i hi
      have hml := HT.out.lt ms[i] (List.getElem_mem him)
      have HDR : Hid (is.drop i = is[i] :: is.drop (i + 1) ∧ ms.drop i = ms[i] :: ms.drop (i + 1)) := Lib.hid ⟨List.drop_eq_getElem_cons hi, List.drop_eq_getElem_cons him⟩
      obtain ⟨gb, go', e1, e2⟩ := HO.out.at1 (k := i) (u := .int .u64 (ms[i] : Nat)) (by first | (simp [u64L, him]; done) | (simp [u64L, him]; rfl))
      have E2 := Lib.hid e2
      subst e1
      have hck : ckOf is[i] = 0 := HC.out _ (List.getElem_mem hi)
      have hal := HAR.out _ (List.getElem_mem hi)
      generalize ms[i] = m at *
      generalize is[i] = i1 at *
      have hrr := reads_rng hck
      have HRE := Lib.hid (fun w1 (r : Fr no wo w1) => reads_ok w1 i1.o i1.A i1.B i1.C i1.N u1 i1.l (h1.args.fr r (by simp)) (by omega))
      have HRR : Hid (∀ x ∈ readsI i1, 0 ≤ x ∧ x < 64) := Lib.hid hrr
      obtain ⟨ua, uc, rfl⟩ := h1.args.shape
      obtain ⟨c0, c1, c2, c3, c4, c5⟩ := h1.six
      clear e2 hil hi0 him hck h1 hrr
      rw [show readsOf i1.o i1.A i1.B i1.C i1.l = readsI i1 from rfl] at HRE
      have HUN : Hid (((readsI i1).find? (badAt m) = none → unsetL (is.drop (i + 1)) (ms.drop (i + 1)) (i + 1) = unsetL is ms 0) ∧ ∀ r, (readsI i1).find? (badAt m) = some r → unsetL is ms 0 = ((i : Int), r)) := Lib.hid (by
        rw [← HU.out, HDR.out.1, HDR.out.2, unsetL]
        exact ⟨fun h => by rw [h], fun r h => by rw [h]⟩)
      clear HU HDR
      generalize readsI i1 = rs at *
      have r5 := (Fr.refl no wo).alloc (.cells #[.int .i64 i1.o, .int .i64 i1.A, .int .i64 i1.B, .int .i64 i1.C, .int .i64 i1.N, .slice ua i1.l.length uc] 47)
      have HRE5 := Lib.hid (HRE.out _ r5)
      have R5 := Lib.hid (HR.out.trans r5)
      unfold insV at HRE5
      clear r5 HRE HR
      go_wp2_with fail
      refine HRE5.out.mono ?_
      rintro e w6 ⟨v, rfl, ho6, r6⟩
      obtain ⟨va, vc, rfl⟩ := owns_shape ho6
      have HO6 := Lib.hid (owns_reads ho6)
      have hrl : rs.length ≤ maxLen := by
        rcases ho6.2 with ⟨_, h0⟩ | ⟨g, cap, cur, hv, hb, hg, h1, h2, hz, ht⟩
        · rw [h0]; exact Nat.zero_le _
        · exact Nat.le_trans h1 h2
      unfold maxLen at hrl
      have R6 := Lib.hid (R5.out.trans r6)
      clear ho6 r6 HRE5 R5 c0 c1 c2 c3 c4 c5
      go_wp2_with fail
      go_loopw [32] (fun x wr => ∃ k : Nat, x = .int .i64 k ∧ Hid (k ≤ rs.length) ∧ Hid (∀ y ∈ rs.take k, badAt m y = false) ∧ Hid (Fr no w6 wr)) (fun x _ => rs.length - nOf x)
      case atStart => exact ⟨0, rfl, Lib.hid (by omega), Lib.hid (by simp), Lib.hid (Fr.refl _ _)⟩
      case round =>
        obtain ⟨k, rfl, hk0, HB, HW⟩ := hrel
        have R7 := Lib.hid (R6.out.trans HW.out)
        by_cases hkl : k = rs.length
        · subst hkl
          have HN := Lib.hid (HUN.out.1 (List.find?_eq_none.2 (fun y hy => by have := HB.out y (by simpa using hy); simp [this])))
          go_wp2_with fail
          go_roundw
          case rel => exact ⟨i + 1, by simp, HI1, HN, R7⟩
          case measure => simp [nOf]; omega
        · have hk : k < rs.length := by have := hk0.out; omega
          have hk' : (k : Int) < rs.length := by omega
          obtain ⟨b2, o2, rfl, e3⟩ := (HO6.out.fr HW.out (by simp)).at1 (k := k) (u := .int .i64 rs[k]) (by simp [ints, hk])
          have hy := HRR.out rs[k] (List.getElem_mem hk)
          have HTK : Hid (rs.take (k + 1) = rs.take k ++ [rs[k]]) := Lib.hid (List.take_succ_eq_append_getElem hk)
          have HFD : Hid (badAt m rs[k] = true → unsetL is ms 0 = ((i : Int), rs[k])) := Lib.hid (fun h => HUN.out.2 _ (find_at rs k hk HB.out h))
          have HK1 : Hid (k + 1 ≤ rs.length) := Lib.hid hk
          generalize rs[k] = y at *
          obtain ⟨yn, rfl⟩ : ∃ yn : Nat, y = yn := ⟨y.toNat, by omega⟩
          have hyn : yn < 64 := by omega
          have cm : wr.cell? ⟨gb, go' + i, none⟩ = some (.int .u64 m) := (R7.out).cell E2.out (by simp)
          have eand := and_u64 m (2 ^ yn) hml (pow_le yn hyn)
          rw [← pow_wrap yn hyn] at eand
          have HBA : Hid (((m &&& 2 ^ yn : Nat) == 0) = badAt m yn) := Lib.hid (by rw [and_pow, badAt, Int.toNat_natCast])
          generalize (m &&& 2 ^ yn : Nat) = z at *
          have ez : ((z : Int) == 0) = badAt m yn := by rw [← HBA.out]; cases z <;> simp <;> omega
          generalize hbv : badAt m (yn : Int) = bv at *
          have HBV := Lib.hid hbv
          have HBN : Hid (bv = false → ∀ y ∈ rs.take (k + 1), badAt m y = false) := Lib.hid (fun h y hy => by
            rw [HTK.out] at hy
            rcases List.mem_append.1 hy with hy | hy
            · exact HB.out y hy
            · rw [List.mem_singleton] at hy
              rw [hy, HBV.out, h])
          clear hbv hkl hk0 hy HBA HB HTK
          go_upto_region 10 with fail
          go_quiet (fail)
          cases bv
          · go_wp2_with fail
            go_roundw
            case rel => exact ⟨k + 1, by simp, HK1, Lib.hid (HBN.out rfl), Lib.hid (HW.out.drewN _)⟩
            case measure => simp [nOf]; omega
          · go_wp2_with fail
            go_ret3
            exact ⟨_, _, rfl, fun h => absurd rfl h, fun _ => ⟨ms, HT.out, HFD.out (by first | rfl | trivial)⟩, R1.out.trans (R7.out.drewN _)⟩

end Go.Proofs.YtofahdjnejodjaaGreat

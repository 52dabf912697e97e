/- The document's inside, up, shape (law24). -/
import Derived.Test.YtjpkmaacalelcaaDoorY17
set_option linter.unusedSimpArgs false
set_option linter.unusedVariables false
set_option linter.unusedSectionVars false
set_option linter.unnecessarySimpa false
set_option maxRecDepth 100000
namespace Go.Proofs.YtjpkmaacalelcaaDoor
open Go.RowKit Go.Ty Go.Deep

attribute [local go_sem] Program.isFuncB Program.isSliceB

variable {w w' w'' w0 : World}

theorem upN_mod (n k : Nat) : upN n k % k = 0 := by unfold upN; exact Nat.mul_mod_left _ _
theorem upN_ge (n k : Nat) (hk : 1 ≤ k) : n ≤ upN n k := by
  unfold upN
  have h1 := Nat.div_add_mod (n + k - 1) k
  have h2 := Nat.mod_lt (n + k - 1) (show 0 < k by omega)
  rw [Nat.mul_comm] at h1
  omega
theorem upN_lt (n k : Nat) (hk : 1 ≤ k) : upN n k < n + k := by
  have := upN_le n k hk
  omega
theorem upN_least {n k x : Nat} (hk : 1 ≤ k) (hx : n ≤ x) (hm : x % k = 0) : upN n k ≤ x := by
  obtain ⟨q, rfl⟩ := Nat.dvd_of_mod_eq_zero hm
  unfold upN
  rw [Nat.mul_comm k q]
  refine Nat.mul_le_mul_right k ?_
  have h1 : (n + k - 1) / k ≤ (k * q + (k - 1)) / k := Nat.div_le_div_right (by omega)
  have h2 : (k * q + (k - 1)) / k = q := by
    rw [Nat.mul_add_div (by omega), Nat.div_eq_of_lt (by omega), Nat.add_zero]
  omega

set_option maxHeartbeats 1000000 in
theorem rup_ok (w : World) (n k : Nat) (hn : n ≤ 4398046511104) (hk : 1 ≤ k ∧ k ≤ 8) : Calls Tryd.prog 59 #[.int .i64 n, .int .i64 k] w fun e w' => e = .returned (.int .i64 (upN n k : Nat)) ∧ w = w' := by
  have hk0 : (k : Int) ≠ 0 := by omega
  have HG := Lib.hid (upN_ge n k hk.1)
  have HLT := Lib.hid (upN_lt n k hk.1)
  have HM := Lib.hid (upN_mod n k)
  have HLE : Hid (∀ x, n ≤ x → x % k = 0 → upN n k ≤ x) := Lib.hid (fun x h1 h2 => upN_least hk.1 h1 h2)
  generalize upN n k = u at *
  go_enter Tryd.func59, Tryd.ntmps59
  go_upto_region 1 with fail
  go_loopw [0] (fun x wr => ∃ y : Nat, x = .int .i64 y ∧ Hid (n ≤ y ∧ y ≤ u) ∧ w = wr) (fun x _ => (u - intOf x).toNat)
  case atStart => exact ⟨n, rfl, Lib.hid ⟨Nat.le_refl _, HG.out⟩, rfl⟩
  case round =>
    obtain ⟨y, rfl, hy, rfl⟩ := hrel
    have hyb : y ≤ 4398046511104 + 8 := by have := hy.out; have := HLT.out; omega
    by_cases hm : y % k = 0
    · have h1 : (((y : Int) % (k : Int)) != 0) = false := by
        rw [← Int.natCast_emod, hm]; rfl
      have hu : Hid (y = u) := Lib.hid (by have := HLE.out y hy.out.1 hm; have := hy.out; omega)
      clear hm
      go_wp2_with fail
      go_ret
      exact ⟨by rw [hu.out]; rfl, rfl⟩
    · have h1 : (((y : Int) % (k : Int)) != 0) = true := by
        rw [← Int.natCast_emod, bne_iff_ne]; omega
      have hu : Hid (y < u) := Lib.hid (by
        rcases Nat.lt_or_ge y u with h | h
        · exact h
        · have : y = u := by have := hy.out; omega
          rw [this] at hm; exact absurd HM.out hm)
      clear hm
      go_wp2_with fail
      go_roundw
      case rel => exact ⟨y + 1, by go_num, Lib.hid (by have := hy.out; have := hu.out; omega), by trivial⟩
      case measure => have := hu.out; first | (simp [intOf]; done) | (simp [intOf]; omega)

set_option maxHeartbeats 1000000 in
theorem rinside_ok (w : World) (b s : Int) (ms : List Int) (ma : Option Addr) (mc : Nat) (hm : TIn w ma mc ms) (hl : ms.length ≤ 1000000) :
    Calls Tryd.prog 64 #[.agg #[.int .i64 b, .int .i64 s, .slice ma ms.length mc]] w fun e w' => e = .returned (.bool (insideB ⟨b, s, ms⟩)) ∧ Fr no w w' := by
  have r1 := (Fr.refl no w).alloc (.cells #[.int .i64 b, .int .i64 s, .slice ma ms.length mc] 25)
  have hb := heap_new w (.cells #[.int .i64 b, .int .i64 s, .slice ma ms.length mc] 25)
  obtain ⟨c0, c1, c2⟩ := ce3 hb
  have HM := Lib.hid (hm.fr r1)
  have R1 := Lib.hid r1
  clear hm r1 hb
  have HI : Hid (insideB ⟨b, s, ms⟩ = (b == 9 && !ms.contains (-1))) := Lib.hid rfl
  generalize insideB ⟨b, s, ms⟩ = res at *
  go_enter Tryd.func64, Tryd.ntmps64
  go_upto_region 2 with fail
  generalize w.alloc (.cells #[.int .i64 b, .int .i64 s, .slice ma ms.length mc] 25) = w1 at *
  generalize w.heap.size = TB at *
  go_loopw [3] (fun x wr => ∃ i : Nat, x = .int .i64 i ∧ i ≤ ms.length ∧ Hid (∀ j (h : j < ms.length), j < i → ms[j] ≠ -1) ∧ w1 = wr) (fun x _ => (ms.length - intOf x).toNat)
  case atStart => exact ⟨0, rfl, by omega, Lib.hid (fun j h h0 => by omega), rfl⟩
  case round =>
    obtain ⟨i, rfl, hi, hpre, rfl⟩ := hrel
    by_cases hlt : i < ms.length
    · have hlt' : (i : Int) < ms.length := by omega
      obtain ⟨g, o, rfl, d⟩ := reads_int HM.out hlt
      by_cases hx : ms[i] = -1
      · have hv : Hid (res = false) := Lib.hid (by
          rw [HI.out, show ms.contains (-1) = true from by rw [List.contains_iff_mem, ← hx]; exact List.getElem_mem _]; simp)
        rw [hx] at d
        clear hx hpre
        go_wp2_with fail
        go_ret
        exact ⟨by rw [hv.out]; rfl, R1.out⟩
      · have he : (ms[i] == -1) = false := by simpa using hx
        have hpre2 : Hid (∀ j (h : j < ms.length), j < i + 1 → ms[j] ≠ -1) := Lib.hid (fun j h hj => by
          rcases Nat.lt_or_ge j i with h2 | h2
          · exact hpre.out j h h2
          · have : j = i := by omega
            subst this; exact hx)
        generalize ms[i] = p at d he
        clear hx hpre
        go_wp2_with fail
        go_roundw
        case rel => exact ⟨i + 1, by go_num, by omega, hpre2, by trivial⟩
        case measure => first | (simp [intOf]; done) | (simp [intOf]; omega)
    · obtain rfl : i = ms.length := by omega
      have hv : Hid (res = (b == 9)) := Lib.hid (by
        rw [HI.out, show ms.contains (-1) = false from by
          rw [← Bool.not_eq_true, List.contains_iff_mem]
          intro h
          obtain ⟨j, hj, e⟩ := List.mem_iff_getElem.1 h
          exact hpre.out j hj hj e]; simp)
      clear hlt hpre
      go_wp2_with fail
      go_ret
      exact ⟨by rw [hv.out]; rfl, R1.out⟩

theorem shaped_false {n : Nat} {t : Ty} (h : ¬ ((0 ≤ t.b ∧ t.b ≤ 9) ∧ t.ms.length ≤ 8 ∧ (t.b = 9 → 0 ≤ t.s ∧ t.s < n) ∧ (t.b ≠ 9 → t.s = 0) ∧ (t.b = 0 → t.ms.getLast? = some (-1)) ∧ t.ms.all modB = true)) : shapedB n t = false := by
  cases hc : shapedB n t with
  | false => rfl
  | true => exact absurd (shaped_iff.1 hc) h

set_option maxRecDepth 100000 in
set_option maxHeartbeats 4000000 in
theorem rshape_ok (w : World) (many : Nat) (b s : Int) (ms : List Int) (ma : Option Addr) (mc : Nat) (hm : TIn w ma mc ms) :
    Calls Tryd.prog 44 #[.int .i64 many, .agg #[.int .i64 b, .int .i64 s, .slice ma ms.length mc]] w fun e w' => e = .returned (.bool (shapedB many ⟨b, s, ms⟩)) ∧ Fr no w w' := by
  have r1 := (Fr.refl no w).alloc (.cells #[.int .i64 b, .int .i64 s, .slice ma ms.length mc] 25)
  have hb := heap_new w (.cells #[.int .i64 b, .int .i64 s, .slice ma ms.length mc] 25)
  obtain ⟨c0, c1, c2⟩ := ce3 hb
  have HM := Lib.hid (hm.fr r1)
  have R1 := Lib.hid r1
  clear hm r1 hb
  have HF := Lib.hid (@shaped_false many ⟨b, s, ms⟩)
  have HT := Lib.hid (@shaped_iff many ⟨b, s, ms⟩)
  dsimp only at HF HT
  generalize shapedB many ⟨b, s, ms⟩ = res at *
  go_enter Tryd.func44, Tryd.ntmps44
  go_upto_region 1 with fail
  generalize w.alloc (.cells #[.int .i64 b, .int .i64 s, .slice ma ms.length mc] 25) = w1 at *
  generalize w.heap.size = TB at *
  by_cases hb0 : b < 0
  · have hv : Hid (res = false) := Lib.hid (HF.out (by rintro ⟨⟨h, -⟩, -⟩; omega))
    go_wp2_with fail
    go_ret
    exact ⟨by rw [hv.out]; rfl, R1.out⟩
  by_cases hb9 : 9 < b
  · have hv : Hid (res = false) := Lib.hid (HF.out (by rintro ⟨⟨-, h⟩, -⟩; omega))
    go_wp2_with fail
    go_ret
    exact ⟨by rw [hv.out]; rfl, R1.out⟩
  by_cases hl8 : 8 < ms.length
  · have hv : Hid (res = false) := Lib.hid (HF.out (by rintro ⟨-, h, -⟩; omega))
    have hl8' : (8 : Int) < ms.length := by omega
    clear hl8
    go_wp2_with fail
    go_ret
    exact ⟨by rw [hv.out]; rfl, R1.out⟩
  have hl8' : ¬ (8 : Int) < ms.length := by omega
  by_cases h9 : b = 9
  · subst h9
    clear hb0 hb9
    by_cases hs0 : s < 0
    · have hv : Hid (res = false) := Lib.hid (HF.out (by rintro ⟨-, -, h, -⟩; have := h rfl; omega))
      go_wp2_with fail
      go_ret
      exact ⟨by rw [hv.out]; rfl, R1.out⟩
    by_cases hsm : (many : Int) ≤ s
    · have hv : Hid (res = false) := Lib.hid (HF.out (by rintro ⟨-, -, h, -⟩; have := h rfl; omega))
      go_wp2_with fail
      go_ret
      exact ⟨by rw [hv.out]; rfl, R1.out⟩
    have HX : Hid (res = ms.all modB) := Lib.hid (by
      rw [Bool.eq_iff_iff, HT.out]
      exact ⟨fun h => h.2.2.2.2.2, fun h => ⟨by omega, by omega, fun _ => by omega, fun h => absurd rfl h, fun h => by omega, h⟩⟩)
    clear HF HT
    go_upto_region 6 with fail
    go_loopw [5] (fun x wr => ∃ i : Nat, x = .int .i64 i ∧ i ≤ ms.length ∧ Hid (∀ j (h : j < ms.length), j < i → modB ms[j] = true) ∧ w1 = wr) (fun x _ => (ms.length - intOf x).toNat)
    case atStart => exact ⟨0, rfl, by omega, Lib.hid (fun j h h0 => by omega), rfl⟩
    case round =>
      obtain ⟨i, rfl, hi, hpre, rfl⟩ := hrel
      by_cases hlt : i < ms.length
      · have hlt' : (i : Int) < ms.length := by omega
        obtain ⟨g, o, rfl, d⟩ := reads_int HM.out hlt
        by_cases hx : modB ms[i] = true
        · have hpre2 : Hid (∀ j (h : j < ms.length), j < i + 1 → modB ms[j] = true) := Lib.hid (fun j h hj => by
            rcases Nat.lt_or_ge j i with h2 | h2
            · exact hpre.out j h h2
            · have : j = i := by omega
              subst this; exact hx)
          generalize ms[i] = p at d hx
          clear hpre
          by_cases hp : p = -1
          · subst hp
            clear hx
            go_wp2_with fail
            go_roundw
            case rel => exact ⟨i + 1, by go_num, by omega, hpre2, by trivial⟩
            case measure => first | (simp [intOf]; done) | (simp [intOf]; omega)
          · have hp1 : (p != -1) = true := by simpa using hp
            have hp2 : ¬ p < 1 ∧ ¬ 8192 < p := by unfold modB at hx; simp [hp] at hx; omega
            obtain ⟨hp3, hp4⟩ := hp2
            clear hx hp
            go_wp2_with fail
            go_roundw
            case rel => exact ⟨i + 1, by go_num, by omega, hpre2, by trivial⟩
            case measure => first | (simp [intOf]; done) | (simp [intOf]; omega)
        · have hv : Hid (res = false) := Lib.hid (by
            rw [HX.out, List.all_eq_false]
            exact ⟨_, List.getElem_mem hlt, hx⟩)
          generalize ms[i] = p at d hx
          have hp1 : (p != -1) = true := by
            rw [bne_iff_ne]; rintro rfl; exact hx rfl
          by_cases hp2 : p < 1
          · clear hx hpre
            go_wp2_with fail
            go_ret
            exact ⟨by rw [hv.out]; rfl, R1.out⟩
          · have hp3 : 8192 < p := by
              rcases Int.lt_or_le 8192 p with h | h
              · exact h
              · exact absurd (by unfold modB; simp; omega) hx
            clear hx hpre
            go_wp2_with fail
            go_ret
            exact ⟨by rw [hv.out]; rfl, R1.out⟩
      · obtain rfl : i = ms.length := by omega
        have hv : Hid (res = true) := Lib.hid (by
          rw [HX.out, List.all_eq_true]
          intro x hx
          obtain ⟨j, hj, e⟩ := List.mem_iff_getElem.1 hx
          exact e ▸ hpre.out j hj hj)
        clear hlt hpre
        go_wp2_with fail
        go_ret
        exact ⟨by rw [hv.out]; rfl, R1.out⟩
  · have e9 : (b == 9) = false := by simpa using h9
    have n9 : (b != 9) = true := by simpa using h9
    by_cases hs : s = 0
    case neg =>
      have hv : Hid (res = false) := Lib.hid (HF.out (by rintro ⟨-, -, -, h, -⟩; exact hs (h h9)))
      have e0 : (s != 0) = true := by simpa using hs
      clear hs h9
      go_wp2_with fail
      go_ret
      exact ⟨by rw [hv.out]; rfl, R1.out⟩
    subst hs
    have HX : Hid (res = (ms.all modB && (decide (b ≠ 0) || decide (ms.getLast? = some (-1))))) := Lib.hid (by
      rw [Bool.eq_iff_iff, HT.out, Bool.and_eq_true, Bool.or_eq_true, decide_eq_true_eq, decide_eq_true_eq]
      constructor
      · intro h
        refine ⟨h.2.2.2.2.2, ?_⟩
        by_cases h0 : b = 0
        · exact .inr (h.2.2.2.2.1 h0)
        · exact .inl h0
      · intro h
        exact ⟨by omega, by omega, fun e => absurd e h9, fun _ => rfl, fun h0 => h.2.resolve_left (fun h1 => h1 h0), h.1⟩)
    clear HF HT h9
    go_upto_region 6 with fail
    go_loopw [5] (fun x wr => ∃ i : Nat, x = .int .i64 i ∧ i ≤ ms.length ∧ Hid (∀ j (h : j < ms.length), j < i → modB ms[j] = true) ∧ w1 = wr) (fun x _ => (ms.length - intOf x).toNat)
    case atStart => exact ⟨0, rfl, by omega, Lib.hid (fun j h h0 => by omega), rfl⟩
    case round =>
      obtain ⟨i, rfl, hi, hpre, rfl⟩ := hrel
      by_cases hlt : i < ms.length
      · have hlt' : (i : Int) < ms.length := by omega
        obtain ⟨g, o, rfl, d⟩ := reads_int HM.out hlt
        by_cases hx : modB ms[i] = true
        · have hpre2 : Hid (∀ j (h : j < ms.length), j < i + 1 → modB ms[j] = true) := Lib.hid (fun j h hj => by
            rcases Nat.lt_or_ge j i with h2 | h2
            · exact hpre.out j h h2
            · have : j = i := by omega
              subst this; exact hx)
          generalize ms[i] = p at d hx
          clear hpre
          by_cases hp : p = -1
          · subst hp
            clear hx
            go_wp2_with fail
            go_roundw
            case rel => exact ⟨i + 1, by go_num, by omega, hpre2, by trivial⟩
            case measure => first | (simp [intOf]; done) | (simp [intOf]; omega)
          · have hp1 : (p != -1) = true := by simpa using hp
            have hp2 : ¬ p < 1 ∧ ¬ 8192 < p := by unfold modB at hx; simp [hp] at hx; omega
            obtain ⟨hp3, hp4⟩ := hp2
            clear hx hp
            go_wp2_with fail
            go_roundw
            case rel => exact ⟨i + 1, by go_num, by omega, hpre2, by trivial⟩
            case measure => first | (simp [intOf]; done) | (simp [intOf]; omega)
        · have hv : Hid (res = false) := Lib.hid (by
            rw [HX.out, show ms.all modB = false from by rw [List.all_eq_false]; exact ⟨_, List.getElem_mem hlt, hx⟩]; rfl)
          generalize ms[i] = p at d hx
          have hp1 : (p != -1) = true := by
            rw [bne_iff_ne]; rintro rfl; exact hx rfl
          by_cases hp2 : p < 1
          · clear hx hpre
            go_wp2_with fail
            go_ret
            exact ⟨by rw [hv.out]; rfl, R1.out⟩
          · have hp3 : 8192 < p := by
              rcases Int.lt_or_le 8192 p with h | h
              · exact h
              · exact absurd (by unfold modB; simp; omega) hx
            clear hx hpre
            go_wp2_with fail
            go_ret
            exact ⟨by rw [hv.out]; rfl, R1.out⟩
      · obtain rfl : i = ms.length := by omega
        have hA : ms.all modB = true := by
          rw [List.all_eq_true]
          intro x hx
          obtain ⟨j, hj, e⟩ := List.mem_iff_getElem.1 hx
          exact e ▸ hpre.out j hj hj
        rw [hA, Bool.true_and] at HX
        clear hlt hpre hA
        by_cases h0 : b = 0
        case neg =>
          have hv : Hid (res = true) := Lib.hid (by rw [HX.out, decide_eq_true h0]; rfl)
          have n0 : (b != 0) = true := by simpa using h0
          clear h0
          go_wp2_with fail
          go_ret
          exact ⟨by rw [hv.out]; rfl, R1.out⟩
        subst h0
        by_cases hp : 0 < ms.length
        · have hp' : (0 : Int) < ms.length := by omega
          obtain ⟨g, o, rfl, d⟩ := reads_int HM.out (k := ms.length - 1) (by omega)
          have hv : Hid (res = decide (ms[ms.length - 1] = -1)) := Lib.hid (by
            rw [HX.out, List.getLast?_eq_getElem?, List.getElem?_eq_getElem (by omega)]
            simp)
          have hix : ((ms.length : Int) - 1).toNat = ms.length - 1 := by omega
          have hiw : IntKind.i64.wrap ((ms.length : Int) - 1) = (ms.length : Int) - 1 := by rw [IntKind.wrap_i64]; omega
          have hi0 : (0 : Int) ≤ (ms.length : Int) - 1 := by omega
          have hi1 : (ms.length : Int) - 1 < ms.length := by omega
          generalize ms[ms.length - 1] = p at d hv
          by_cases hx : p = -1
          · subst hx
            go_wp2_with fail
            go_ret
            exact ⟨by rw [hv.out]; rfl, R1.out⟩
          · have hx1 : (p == -1) = false := by simpa using hx
            have hw : Hid (res = false) := Lib.hid (by rw [hv.out, decide_eq_false hx])
            clear hx
            go_wp2_with fail
            go_ret
            exact ⟨by rw [hw.out]; rfl, R1.out⟩
        · have hv : Hid (res = false) := Lib.hid (by
            rw [HX.out, List.length_eq_zero_iff.1 (show ms.length = 0 by omega)]; rfl)
          have hp' : ¬ (0 : Int) < ms.length := by omega
          clear hp
          go_wp2_with fail
          go_ret
          exact ⟨by rw [hv.out]; rfl, R1.out⟩

end Go.Proofs.YtjpkmaacalelcaaDoor

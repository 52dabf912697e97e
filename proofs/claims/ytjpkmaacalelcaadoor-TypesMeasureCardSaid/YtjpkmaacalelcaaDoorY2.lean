/- Which types may be (law24). -/
import Derived.Test.YtjpkmaacalelcaaDoorY1
import Derived.Test.YtjpkmaacalelcaaDoorYa
import Derived.Test.YtjpkmaacalelcaaDoorShelf
set_option linter.unusedSimpArgs false
set_option linter.unusedVariables false
set_option linter.unusedSectionVars false
set_option linter.unnecessarySimpa false
namespace Go.Proofs.YtjpkmaacalelcaaDoor
open Go.RowKit Go.Ty

attribute [local go_sem] Program.isFuncB Program.isSliceB

variable {w w' w'' w0 : World}

def ints (l : List Int) : List Value := l.map (.int .i64)
def badM (m : Int) : Bool := !modB m
theorem all_bad (ms : List Int) : ms.all modB = !ms.any badM := by
  induction ms with
  | nil => rfl
  | cons m l ih => rw [List.all_cons, List.any_cons, ih]; unfold badM; cases modB m <;> simp
theorem bad_ok (w : World) (n : Int) : Calls Tryd.prog 62 #[.int .i64 n] w fun e w' => e = .returned (.bool (badM n)) ∧ w = w' := by
  have HB : Hid (badM n = !(n == -1 || (decide (1 ≤ n) && decide (n ≤ 8192)))) := Lib.hid rfl
  generalize badM n = q at *
  by_cases h1 : n = -1
  · have e1 : (n != -1) = false := by simp [h1]
    have HR : Hid (q = false) := Lib.hid (by rw [HB.out]; simp [h1])
    go_enter Tryd.func62, Tryd.ntmps62
    go_wp2_with fail
    go_ret
    exact ⟨by rw [HR.out]; rfl, rfl⟩
  have e1 : (n != -1) = true := by simpa using h1
  by_cases h2 : n < 1
  · have HR : Hid (q = true) := Lib.hid (by rw [HB.out]; simp [h1, show ¬ 1 ≤ n from by omega])
    go_enter Tryd.func62, Tryd.ntmps62
    go_wp2_with fail
    go_ret
    exact ⟨by rw [HR.out]; rfl, rfl⟩
  by_cases h3 : 8192 < n
  · have HR : Hid (q = true) := Lib.hid (by rw [HB.out]; simp [h1, show ¬ n ≤ 8192 from by omega])
    go_enter Tryd.func62, Tryd.ntmps62
    go_wp2_with fail
    go_ret
    exact ⟨by rw [HR.out]; rfl, rfl⟩
  · have HR : Hid (q = false) := Lib.hid (by rw [HB.out]; simp [h1, show n ≤ 8192 from by omega, show 1 ≤ n from by omega])
    go_enter Tryd.func62, Tryd.ntmps62
    go_wp2_with fail
    go_ret
    exact ⟨by rw [HR.out]; rfl, rfl⟩

/-- the first number out of reach -/
def badAtM (l : List Int) : Int := match l.findIdx? (badM) with | some i => i | none => -1
theorem badAt_ge (l : List Int) : decide (0 ≤ badAtM l) = l.any (badM) := by
  unfold badAtM
  cases h : l.findIdx? (badM) with
  | none =>
    rw [List.findIdx?_eq_none_iff] at h
    have : l.any (badM) = false := by rw [List.any_eq_false]; intro x hx; simpa using h x hx
    rw [this]; rfl
  | some i =>
    rw [List.findIdx?_eq_some_iff_getElem] at h
    obtain ⟨hi, h1, _⟩ := h
    have : l.any (badM) = true := List.any_eq_true.2 ⟨l[i], List.getElem_mem hi, h1⟩
    rw [this]
    exact decide_eq_true (show (0 : Int) ≤ (i : Int) from by omega)

set_option maxHeartbeats 1000000 in
theorem indexBad (w : World) (v : Value) (l : List Int) (hv : Reads w v 1 l.length (ints l)) (hl : l.length ≤ 1000000) :
    Calls Tryd.prog 71 #[v, .func (.func 62) #[] #[]] w fun e w' => e = .returned (.int .i64 (badAtM l)) ∧ w = w' := by
  obtain ⟨sa, sc, rfl⟩ := hv.shape
  have HV := Lib.hid hv
  clear hv
  go_enter Tryd.func71, Tryd.ntmps71
  go_wp2_with fail
  go_loopw [8] (fun x wr => ∃ i : Nat, x = .int .i64 i ∧ i ≤ l.length ∧ Hid (∀ j (hj : j < l.length), j < i → badM l[j] = false) ∧ wr = w) (fun x _ => (l.length - intOf x).toNat)
  case atStart => exact ⟨0, rfl, by omega, Lib.hid fun j hj h => by omega, rfl⟩
  case round =>
    obtain ⟨i, rfl, hi, hno, rfl⟩ := hrel
    by_cases hlt : i < l.length
    · obtain ⟨b, o, rfl, c0⟩ := HV.out.at1 (k := i) (u := .int .i64 l[i]) (by simp [ints, hlt])
      have C := Lib.hid (bad_ok wr l[i])
      have hlt' : (i : Int) < l.length := by omega
      cases hq : badM l[i] with
      | true =>
        have HF : Hid (badAtM l = i) := by
          refine Lib.hid ?_
          have : l.findIdx? (badM) = some i := by
            rw [List.findIdx?_eq_some_iff_getElem]
            exact ⟨hlt, hq, fun j hj => by rw [hno.out j (by omega) hj]; simp⟩
          unfold badAtM; rw [this]
        rw [hq] at C
        generalize l[i] = z at *
        clear hq
        go_wp2_with fail
        refine C.out.mono ?_
        rintro e w' ⟨rfl, rfl⟩
        go_wp2_with fail
        go_ret
        exact ⟨by rw [HF.out]; rfl, rfl⟩
      | false =>
        have HNO : Hid (∀ j (hj : j < l.length), j < i + 1 → badM l[j] = false) := Lib.hid fun j hj h => by
          rcases Nat.lt_or_ge j i with h2 | h2
          · exact hno.out j hj h2
          · obtain rfl : j = i := by omega
            exact hq
        rw [hq] at C
        generalize l[i] = z at *
        clear hq
        go_wp2_with fail
        refine C.out.mono ?_
        rintro e w' ⟨rfl, rfl⟩
        go_wp2_with fail
        go_roundw
        case rel => exact ⟨i + 1, by go_num, by omega, HNO, by trivial⟩
        case measure => first | (simp [intOf]; done) | (simp [intOf]; omega)
    · obtain rfl : i = l.length := by omega
      have HF : Hid (badAtM l = -1) := by
        refine Lib.hid ?_
        have : l.findIdx? (badM) = none := by
          rw [List.findIdx?_eq_none_iff]
          intro x hx
          obtain ⟨j, hj, rfl⟩ := List.getElem_of_mem hx
          exact hno.out j hj hj
        unfold badAtM; rw [this]
      go_wp2_with fail
      go_ret
      exact ⟨by rw [HF.out]; rfl, rfl⟩

theorem anyBad (w : World) (v : Value) (l : List Int) (hv : Reads w v 1 l.length (ints l)) (hl : l.length ≤ 1000000) :
    Calls Tryd.prog 61 #[v, .func (.func 62) #[] #[]] w fun e w' => e = .returned (.bool (l.any (badM))) ∧ w = w' := by
  have C := indexBad w v l hv hl
  rw [← badAt_ge]
  generalize badAtM l = x at *
  have HC := Lib.hid C
  clear C hv
  go_enter Tryd.func61, Tryd.ntmps61
  go_wp2_with fail
  refine HC.out.mono ?_
  rintro e w' ⟨rfl, rfl⟩
  go_wp2_with fail
  go_ret
  exact ⟨rfl, rfl⟩


theorem shaped_ok (w : World) (many : Nat) (b s : Int) (ms : List Int) (ma : Option Addr) (mc : Nat) (hm : Reads w (.slice ma ms.length mc) 1 ms.length (ints ms)) :
    Calls Tryd.prog 40 #[.int .i64 many, .agg #[.int .i64 b, .int .i64 s, .slice ma ms.length mc]] w fun e w' => e = .returned (.bool (shapedB many ⟨b, s, ms⟩)) ∧ Fr no w w' := by
  have R := Lib.hid ((Fr.refl no w).alloc (.cells #[.int .i64 b, .int .i64 s, .slice ma ms.length mc] 25))
  have HRES : Hid (shapedB many ⟨b, s, ms⟩ = (decide (0 ≤ b) && decide (b ≤ 9) && decide (ms.length ≤ 8) && (if b = 9 then decide (0 ≤ s) && decide (s < many) else s == 0) &&
    (if b = 0 then ms.getLast? == some (-1) else true) && ms.all modB)) := Lib.hid rfl
  generalize shapedB many ⟨b, s, ms⟩ = res at *
  by_cases h0 : b < 0
  · have HR : Hid (res = false) := Lib.hid (by rw [HRES.out]; simp [show ¬ 0 ≤ b from by omega])
    try clear hb
    try clear hs
    try clear hb0
    try clear hl0
    try clear hz
    go_enter Tryd.func40, Tryd.ntmps40
    go_wp2_with fail
    go_ret
    exact ⟨by rw [HR.out]; rfl, R.out⟩
  by_cases h9 : 9 < b
  · have HR : Hid (res = false) := Lib.hid (by rw [HRES.out]; simp [show ¬ b ≤ 9 from by omega])
    try clear hb
    try clear hs
    try clear hb0
    try clear hl0
    try clear hz
    go_enter Tryd.func40, Tryd.ntmps40
    go_wp2_with fail
    go_ret
    exact ⟨by rw [HR.out]; rfl, R.out⟩
  by_cases h8 : 8 < ms.length
  · have h8' : (8 : Int) < ms.length := by omega
    have HR : Hid (res = false) := Lib.hid (by rw [HRES.out]; simp [show ¬ ms.length ≤ 8 from by omega])
    try clear hb
    try clear hs
    try clear hb0
    try clear hl0
    try clear hz
    go_enter Tryd.func40, Tryd.ntmps40
    go_wp2_with fail
    go_ret
    exact ⟨by rw [HR.out]; rfl, R.out⟩
  have h8' : ¬ (8 : Int) < ms.length := by omega
  by_cases hb : b = 9
  · have e9 : (b == 9) = true := by simpa using hb
    have n9 : (b != 9) = false := by simp [hb]
    by_cases hs0 : s < 0
    · have HR : Hid (res = false) := Lib.hid (by rw [HRES.out]; simp [hb, show ¬ 0 ≤ s from by omega])
      try clear hb
      try clear hs
      try clear hb0
      try clear hl0
      try clear hz
      go_enter Tryd.func40, Tryd.ntmps40
      go_wp2_with fail
      go_ret
      exact ⟨by rw [HR.out]; rfl, R.out⟩
    by_cases hsm : (many : Int) ≤ s
    · have hsm' : s ≥ (many : Int) := hsm
      have HR : Hid (res = false) := Lib.hid (by rw [HRES.out]; simp [hb, show ¬ s < (many : Int) from by omega])
      try clear hb
      try clear hs
      try clear hb0
      try clear hl0
      try clear hz
      go_enter Tryd.func40, Tryd.ntmps40
      go_wp2_with fail
      go_ret
      exact ⟨by rw [HR.out]; rfl, R.out⟩
    have hsm' : ¬ s ≥ (many : Int) := hsm
    have e0 : (b == 0) = false := by simp [hb]
    have HA := Lib.hid (anyBad _ _ ms (hm.fr R.out (by simp)) (by omega))
    have HR : Hid (res = !ms.any badM) := Lib.hid (by rw [HRES.out, all_bad]; simp [hb, show 0 ≤ s from by omega, show s < (many : Int) from by omega, show ms.length ≤ 8 from by omega])
    generalize ms.any badM = q at *
    try clear hb
    try clear hs
    try clear hb0
    try clear hl0
    try clear hz
    go_enter Tryd.func40, Tryd.ntmps40
    go_wp2_with fail
    refine HA.out.mono ?_
    rintro e w2 ⟨rfl, rfl⟩
    go_wp2_with fail
    go_ret
    exact ⟨by rw [HR.out]; rfl, R.out⟩
  have e9 : (b == 9) = false := by simpa using hb
  have n9 : (b != 9) = true := by simpa using hb
  by_cases hs : s = 0
  case neg =>
    have es : (s != 0) = true := by simpa using hs
    have HR : Hid (res = false) := Lib.hid (by rw [HRES.out]; simp [hb, hs])
    try clear hb
    try clear hs
    try clear hb0
    try clear hl0
    try clear hz
    go_enter Tryd.func40, Tryd.ntmps40
    go_wp2_with fail
    go_ret
    exact ⟨by rw [HR.out]; rfl, R.out⟩
  have es : (s != 0) = false := by simp [hs]
  by_cases hb0 : b = 0
  · have e0 : (b == 0) = true := by simpa using hb0
    by_cases hl0 : ms.length = 0
    · have el : ((ms.length : Int) == 0) = true := by rw [beq_iff_eq]; omega
      have HR : Hid (res = false) := Lib.hid (by rw [HRES.out]; simp [List.length_eq_zero_iff.1 hl0, hb0])
      try clear hb
      try clear hs
      try clear hb0
      try clear hl0
      try clear hz
      go_enter Tryd.func40, Tryd.ntmps40
      go_wp2_with fail
      go_ret
      exact ⟨by rw [HR.out]; rfl, R.out⟩
    have el : ((ms.length : Int) == 0) = false := by rw [beq_eq_false_iff_ne]; omega
    have hlt : ms.length - 1 < ms.length := by omega
    obtain ⟨lt, hlt2⟩ : ∃ t, t = ms.length - 1 := ⟨_, rfl⟩
    have hlt3 : ((ms.length : Int) - 1) = lt := by omega
    have hltn : (lt : Int) < ms.length := by omega
    obtain ⟨vb, vo, rfl, cv⟩ := (hm.fr R.out (by simp)).at1 (k := ms.length - 1) (u := .int .i64 ms[ms.length - 1]) (by simp [ints, hlt])
    have HLA : Hid (ms.getLast? = some ms[ms.length - 1]) := Lib.hid (by rw [List.getLast?_eq_getElem?, List.getElem?_eq_getElem hlt])
    generalize ms[ms.length - 1] = z at *
    rw [← hlt2] at cv
    clear hlt hlt2
    by_cases hz : z = -1
    · have ez : (z != -1) = false := by simp [hz]
      have HA := Lib.hid (anyBad _ _ ms (hm.fr R.out (by simp)) (by omega))
      have HR : Hid (res = !ms.any badM) := Lib.hid (by rw [HRES.out, all_bad]; simp [hb0, hs, HLA.out, hz, show ms.length ≤ 8 from by omega])
      generalize ms.any badM = q at *
      try clear hb
      try clear hs
      try clear hb0
      try clear hl0
      try clear hz
      go_enter Tryd.func40, Tryd.ntmps40
      go_wp2_with fail
      refine HA.out.mono ?_
      rintro e w2 ⟨rfl, rfl⟩
      go_wp2_with fail
      go_ret
      exact ⟨by rw [HR.out]; rfl, R.out⟩
    · have ez : (z != -1) = true := by simpa using hz
      have HR : Hid (res = false) := Lib.hid (by rw [HRES.out]; simp [hb0, HLA.out, hz])
      try clear hb
      try clear hs
      try clear hb0
      try clear hl0
      try clear hz
      go_enter Tryd.func40, Tryd.ntmps40
      go_wp2_with fail
      go_ret
      exact ⟨by rw [HR.out]; rfl, R.out⟩
  have e0 : (b == 0) = false := by simpa using hb0
  have HA := Lib.hid (anyBad _ _ ms (hm.fr R.out (by simp)) (by omega))
  have HR : Hid (res = !ms.any badM) := Lib.hid (by rw [HRES.out, all_bad]; simp [hb0, hb, hs, show 0 ≤ b from by omega, show b ≤ 9 from by omega, show ms.length ≤ 8 from by omega])
  generalize ms.any badM = q at *
  try clear hb
  try clear hs
  try clear hb0
  try clear hl0
  try clear hz
  go_enter Tryd.func40, Tryd.ntmps40
  go_wp2_with fail
  refine HA.out.mono ?_
  rintro e w2 ⟨rfl, rfl⟩
  go_wp2_with fail
  go_ret
  exact ⟨by rw [HR.out]; rfl, R.out⟩

theorem up_ok (w : World) (n k : Nat) (hn : n ≤ 100000) (hk : 1 ≤ k ∧ k ≤ 100000) : Calls Tryd.prog 66 #[.int .i64 n, .int .i64 k] w fun e w' => e = .returned (.int .i64 (upN n k : Nat)) ∧ w = w' := by
  have hk0 : ((k : Int) == 0) = false := by rw [beq_eq_false_iff_ne]; omega
  have e1 : ((n : Int) + k - 1).tdiv k = (((n + k - 1) / k : Nat) : Int) := by
    rw [show ((n : Int) + k - 1) = ((n + k - 1 : Nat) : Int) from by omega, ← Int.ofNat_tdiv]
  have hle : (n + k - 1) / k * k ≤ n + k - 1 := Nat.div_mul_le_self _ _
  have HU : Hid ((upN n k : Nat) = (n + k - 1) / k * k) := Lib.hid rfl
  generalize upN n k = res at *
  go_enter Tryd.func66, Tryd.ntmps66
  go_wp2_with fail
  go_ret
  refine ⟨?_, rfl⟩
  rw [HU.out]
  have hq : (((n + k - 1 : Nat) : Int) / (k : Int)) = (((n + k - 1) / k : Nat) : Int) := by simp
  have hqle : (n + k - 1) / k ≤ n + k - 1 := Nat.div_le_self _ _
  show Ending.returned (Value.int .i64 (wrap64 (wrap64 (((n + k - 1 : Nat) : Int) / (k : Int)) * k))) = _
  rw [hq]
  generalize (n + k - 1) / k = q at *
  have h1 : wrap64 (q : Int) = q := by unfold wrap64; omega
  have h2 : ((q : Int) * k) = ((q * k : Nat) : Int) := by simp
  rw [h1, h2]
  generalize q * k = r at *
  have h3 : wrap64 (r : Int) = r := by unfold wrap64; omega
  rw [h3]

end Go.Proofs.YtjpkmaacalelcaaDoor

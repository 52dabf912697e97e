/- The document's measure (law24). -/
import Derived.Test.YtjpkmaacalelcaaDoorD1
import Derived.Test.YtjpkmaacalelcaaDoorDp
set_option linter.unusedSimpArgs false
set_option linter.unusedVariables false
set_option linter.unusedSectionVars false
set_option linter.unnecessarySimpa false
set_option maxRecDepth 100000
namespace Go.Proofs.YtjpkmaacalelcaaDoor
open Go.RowKit Go.Ty Go.Deep

attribute [local go_sem] Program.isFuncB Program.isSliceB

variable {w w' w'' w0 : World}

def T40 : Nat := 1099511627776
theorem T40_eq : T40 = 1099511627776 := rfl
theorem up_min {n k : Nat} (hk : 1 ≤ k) : min (upN n k) 8193 = min (upN (min n 8193) k) 8193 := by
  by_cases h : n ≤ 8193
  · rw [Nat.min_eq_left h]
  · rw [Nat.min_eq_right (show 8193 ≤ n by omega)]
    have := upN_ge n k hk
    have := upN_ge 8193 k hk
    omega
theorem step_min {n k m : Nat} (hk : 1 ≤ k) : min (min (upN n k + m) T40) 8193 = min (upN (min n 8193) k + min m 8193) 8193 := by
  have h1 := up_min (n := n) hk
  rw [T40_eq]
  by_cases h : n ≤ 8193
  · rw [Nat.min_eq_left h]
    omega
  · rw [Nat.min_eq_right (show 8193 ≤ n by omega)]
    have := upN_ge n k hk
    have := upN_ge 8193 k hk
    omega
theorem mul_min {r k : Nat} (hk : 1 ≤ k) : min (min (r * k) T40) 8193 = min (min r 8193 * k) 8193 := by
  rw [T40_eq]
  by_cases h : r ≤ 8193
  · rw [Nat.min_eq_left h]
    omega
  · rw [Nat.min_eq_right (show 8193 ≤ r by omega)]
    have h1 : r ≤ r * k := Nat.le_mul_of_pos_right _ (by omega)
    have h2 : 8193 ≤ 8193 * k := Nat.le_mul_of_pos_right _ (by omega)
    omega
theorem whole_sound {l : List St} (h : Sound l) {s : Nat} (hs : s < l.length) :
    (whole l s).2 = mostAt l s (fieldsAt l s).length ∧ (whole l s).1 = min (upN (endAt l s (fieldsAt l s).length) (whole l s).2) 8193 := by
  have h1 := whole_eq h.down s
  have h2 := h.al hs
  have e1 : endAt l s (fieldsAt l s).length = (layS (whole l) (fieldsAt l s) 0).2.2 := by unfold endAt; rw [List.take_length]
  have e2 : (whole l s).2 = maxA ((fieldsAt l s).map fun f => ofM (whole l) f.t) := by rw [h1]; unfold layM; rw [layS_ms]
  have e3 : mostAt l s (fieldsAt l s).length = max 1 (whole l s).2 := by unfold mostAt; rw [List.take_length, ← e2]
  refine ⟨by omega, ?_⟩
  have : (whole l s).2 = maxA (layS (whole l) (fieldsAt l s) 0).2.1 := by rw [e2, layS_ms]
  rw [this, e1]
  conv => lhs; rw [h1]
  rfl
theorem most_le {l : List St} (h : Sound l) {s : Nat} : ∀ k, k ≤ (fieldsAt l s).length → 1 ≤ mostAt l s k ∧ mostAt l s k ≤ 8
  | 0, _ => by rw [mostAt_zero]; omega
  | k + 1, hk => by
    rw [mostAt_succ l s k hk]
    have := most_le h (s := s) k (by omega)
    have := (h.of_al (h.sh s (fieldsAt l s)[k] (List.getElem_mem hk))).2
    omega
theorem sizeB_N {b : Int} (h : 1 ≤ b ∧ b ≤ 8) : bytesN b = sizeB b := by
  have : b = 1 ∨ b = 2 ∨ b = 3 ∨ b = 4 ∨ b = 5 ∨ b = 6 ∨ b = 7 ∨ b = 8 := by omega
  rcases this with rfl | rfl | rfl | rfl | rfl | rfl | rfl | rfl <;> decide

/-- an answer of measure -/
def MeasR (l : List St) (t : Ty) (w : World) (e : Ending) (w' : World) : Prop :=
  ∃ n : Nat, e = .returned (.tuple #[.int .i64 n, .int .i64 ((ofM (whole l) t).2 : Nat)]) ∧ n ≤ T40 + 8 ∧ min n 8193 = (ofM (whole l) t).1 ∧ Fr no w w'
theorem MeasR.of {l : List St} {t : Ty} (n a : Nat) (ha : (ofM (whole l) t).2 = a) (h1 : n ≤ T40 + 8) (h2 : min n 8193 = (ofM (whole l) t).1) (r : Fr no w w') : MeasR l t w (.returned (.tuple #[.int .i64 n, .int .i64 a])) w' :=
  ⟨n, by rw [ha], h1, h2, r⟩
def MeasOk (l : List St) (N : Nat) : Prop := ∀ (t : Ty), shapedB l.length t = true → (insideB t = true → t.s < N) → ∀ (w : World) (sa ma : Option Addr) (sc mc : Nat), SlIn w sa l → TIn w ma mc t.ms →
  Calls Tryd.prog 37 #[.slice sa l.length sc, .agg #[.int .i64 t.b, .int .i64 t.s, .slice ma t.ms.length mc]] w (MeasR l t w)

set_option maxRecDepth 100000 in
set_option maxHeartbeats 8000000 in
theorem meas_rec (l : List St) (hsd : Sound l) (N : Nat) (IH : ∀ M, M < N → MeasOk l M) : MeasOk l N := by
  have main : ∀ (ms : List Int) (tb ts : Int), shapedB l.length ⟨tb, ts, ms⟩ = true → (insideB ⟨tb, ts, ms⟩ = true → ts < N) → ∀ (w : World) (sa ma : Option Addr) (sc mc : Nat), SlIn w sa l → TIn w ma mc ms →
      Calls Tryd.prog 37 #[.slice sa l.length sc, .agg #[.int .i64 tb, .int .i64 ts, .slice ma ms.length mc]] w (MeasR l ⟨tb, ts, ms⟩ w) := by
    intro ms
    induction ms with
    | cons m rest ih =>
      intro tb ts hsh hin w sa ma sc mc hs hm
      have HSH := Lib.hid hsh
      have hsi := shaped_iff.1 hsh
      have HMB := Lib.hid hsi.2.2.2.2.2
      have hl8 : rest.length + 1 ≤ 8 := by have := hsi.2.1; simpa using this
      have hl2 : l.length ≤ 32 := hsd.few
      have r1 := (Fr.refl no w).alloc (.cells #[.int .i64 tb, .int .i64 ts, .slice ma (rest.length + 1) mc] 25)
      have hb := heap_new w (.cells #[.int .i64 tb, .int .i64 ts, .slice ma (rest.length + 1) mc] 25)
      obtain ⟨b, of, rfl, hm0, hc1, hc2, htl⟩ := reads_tail (v := .int .i64 m) (vs := ints rest) (by simpa [TIn, ints] using hm.fr r1)
      have htl' : TIn (w.alloc (.cells #[.int .i64 tb, .int .i64 ts, .slice (some ⟨b, of, none⟩) (rest.length + 1) mc] 25)) (if mc = 1 then some ⟨b, of, none⟩ else some ⟨b, of + 1, none⟩) (mc - 1) rest := by simpa [TIn, ints] using htl
      have hlr : (ints rest).length = rest.length := by simp [ints]
      rw [hlr] at hc1
      unfold maxLen at hc2
      have HTL := Lib.hid htl'
      have HS1 := Lib.hid (hs.fr r1)
      have R1 := Lib.hid r1
      have HB := Lib.hid hb
      clear htl htl' hlr hm hs r1 hb hsi hsh
      rw [List.length_cons]
      by_cases hm1 : m = -1
      · subst hm1
        obtain ⟨f0, f1, f2⟩ := ce3 HB.out
        clear ih hin HTL HMB
        go_enter Tryd.func37, Tryd.ntmps37
        go_wp2_with fail
        go_ret2
        exact MeasR.of 8 8 rfl (by rw [T40_eq]; omega) rfl R1.out
      have hm2 : (m == -1) = false := by simpa using hm1
      have hmb : 1 ≤ m ∧ m ≤ 8192 := by
        have := HMB.out
        rw [List.all_cons, Bool.and_eq_true] at this
        have := this.1
        unfold modB at this
        simp [hm1] at this
        omega
      have HSR : Hid (shapedB l.length ⟨tb, ts, rest⟩ = true) := Lib.hid (by
        obtain ⟨g1, g2, g3, g4, g5, g6⟩ := shaped_iff.1 HSH.out
        refine shaped_iff.2 ⟨g1, by simp at g2 ⊢; omega, g3, g4, fun h0 => ?_, ?_⟩
        · have := g5 h0
          dsimp only at this ⊢
          cases rest with
          | nil => simp at this; exact absurd this hm1
          | cons x r => rwa [List.getLast?_cons_cons] at this
        · dsimp only at g6 ⊢
          rw [List.all_cons, Bool.and_eq_true] at g6
          exact g6.2)
      have HIR : Hid (insideB ⟨tb, ts, rest⟩ = true → ts < N) := Lib.hid (fun h => hin (by
        unfold insideB at h ⊢
        rw [Bool.and_eq_true] at h ⊢
        refine ⟨h.1, ?_⟩
        rw [List.contains_cons, Bool.not_or, Bool.and_eq_true]
        exact ⟨by rw [Bool.not_eq_true', beq_eq_false_iff_ne]; exact fun e => hm1 e.symm, h.2⟩))
      have HOF : Hid (ofM (whole l) ⟨tb, ts, m :: rest⟩ = (min ((ofM (whole l) ⟨tb, ts, rest⟩).1 * m.toNat) 8193, (ofM (whole l) ⟨tb, ts, rest⟩).2)) := Lib.hid (by
        show modsM (baseM (whole l) ⟨tb, ts, m :: rest⟩) (m :: rest) = _
        unfold modsM
        rw [if_neg hm1]
        rfl)
      obtain ⟨mn, rfl⟩ := Int.eq_ofNat_of_zero_le (show 0 ≤ m by omega)
      rw [Int.toNat_natCast] at HOF
      have hmn : 1 ≤ mn ∧ mn ≤ 8192 := by omega
      have HIH := Lib.hid (fun w' (r : Fr no (w.alloc (.cells #[.int .i64 tb, .int .i64 ts, .slice (some ⟨b, of, none⟩) (rest.length + 1) mc] 25)) w') => ih tb ts HSR.out HIR.out w' sa _ sc (mc - 1) (HS1.out.fr r) (HTL.out.fr r))
      clear ih hin HSR HIR HMB HSH hmb hm1
      obtain ⟨f0, f1, f2⟩ := ce3 HB.out
      have HM0 := Lib.hid hm0
      go_enter Tryd.func37, Tryd.ntmps37
      go_wp2_with fail
      generalize w.alloc (.cells #[.int .i64 tb, .int .i64 ts, .slice (some ⟨b, of, none⟩) (rest.length + 1) mc] 25) = w1 at *
      generalize w.heap.size = TB at *
      clear f0 f1 f2 hm0 hm2
      have rd := (Fr.refl no w1).drew
      have HC := Lib.hid (HIH.out _ rd)
      have HC3 : Hid (∀ w' : World, w'.heap[TB]? = some (.cells #[.int .i64 tb, .int .i64 ts, .slice (some ⟨b, of, none⟩) (rest.length + 1) mc] 25 (0, 0)) → w'.cell? ⟨TB, 0, none⟩ = some (.int .i64 tb) ∧ w'.cell? ⟨TB, 1, none⟩ = some (.int .i64 ts) ∧ w'.cell? ⟨TB, 2, none⟩ = some (.slice (some ⟨b, of, none⟩) (rest.length + 1) mc)) := Lib.hid (fun w' h => ce3 h)
      have HBd := Lib.hid (rd.heap HB.out (by simp))
      have HMd := Lib.hid (rd.cell HM0.out (by simp))
      have Rd := Lib.hid (R1.out.trans rd)
      have hw1 : (1 : Int) ≤ (rest.length : Int) + 1 := by omega
      clear HIH HB HM0 R1 rd
      obtain ⟨ra1, hra⟩ : ∃ r, r = (if mc = 1 then some (⟨b, of, none⟩ : Addr) else some ⟨b, of + 1, none⟩) := ⟨_, rfl⟩
      rw [← hra] at HC
      refine Lex.region [9] [15] (by kernel_rfl) (by kernel_rfl) ?_
      refine Lex.opens (fun w' => w'.cell? ⟨TB, 0, none⟩ = some (.int .i64 tb) ∧ w'.cell? ⟨TB, 1, none⟩ = some (.int .i64 ts) ∧ w'.cell? ⟨TB, 2, none⟩ = some (.slice (some ⟨b, of, none⟩) (rest.length + 1) mc)) (HC3.out _ HBd.out) ?_
      generalize w1.drew = w2 at *
      repeat (first
        | (refine Lex.skips (by rfl) ?_; (try simp only [Act.put, List.setIfInBounds_toArray, List.set_cons_zero, List.set_cons_succ]))
        | (refine Lex.quiet (v := ?_) (by rfl) (by rfl) ?_ ?_; rotate_left; (focus (intro w' hS'; go_simp; try rfl)); (try simp only [Act.put, List.setIfInBounds_toArray, List.set_cons_zero, List.set_cons_succ])))
      refine Lex.loud (by rfl) (by rfl) ?_
      intro K' hK'
      go_simp
      rw [← hra]
      clear hra
      refine HC.out.mono ?_
      rintro e w3 ⟨n, rfl, hn, hmi, r3⟩
      have HB3 := Lib.hid (r3.heap HBd.out (by simp))
      have HM3 := Lib.hid (r3.cell HMd.out (by simp))
      have R3 := Lib.hid (Rd.out.trans r3)
      have HN := Lib.hid hmi
      clear r3 HBd HMd Rd HC HTL HS1 hmi
      refine hK' _ _ (HC3.out _ HB3.out) ?_
      clear hK'
      try simp only [Act.put, List.setIfInBounds_toArray, List.set_cons_zero, List.set_cons_succ]
      repeat (first
        | (refine Lex.skips (by rfl) ?_; (try simp only [Act.put, List.setIfInBounds_toArray, List.set_cons_zero, List.set_cons_succ]))
        | (refine Lex.quiet (v := ?_) (by rfl) (by rfl) ?_ ?_; rotate_left; (focus (intro w' hS'; go_simp; try rfl)); (try simp only [Act.put, List.setIfInBounds_toArray, List.set_cons_zero, List.set_cons_succ])))
      refine Lex.done ?_
      refine Lex.ends ?_
      obtain ⟨f0, f1, f2⟩ := ce3 HB3.out
      have hm0 := HM3.out
      obtain ⟨al, hal⟩ : ∃ x, x = (ofM (whole l) ⟨tb, ts, rest⟩).2 := ⟨_, rfl⟩
      rw [← hal] at HOF ⊢
      obtain ⟨pr, hpr⟩ : ∃ x, x = n * mn := ⟨_, rfl⟩
      have hprl : pr ≤ (T40 + 8) * 8192 := by rw [hpr]; exact Nat.mul_le_mul hn hmn.2
      rw [T40_eq] at hprl
      have hwr : IntKind.i64.wrap ((n : Int) * (mn : Int)) = (pr : Int) := by
        rw [show (n : Int) * (mn : Int) = (pr : Int) by rw [hpr]; push_cast; rfl, IntKind.wrap_i64]; omega
      have HPR := Lib.hid hpr
      have HN40 := Lib.hid hn
      have HMN := Lib.hid hmn
      clear hpr hal hn hmn hprl
      go_wp2_with fail
      go_ret2
      have hq : ((min pr T40 : Nat) : Int) = min (pr : Int) 1099511627776 := by rw [T40_eq]; omega
      rw [← hq]
      refine MeasR.of (min pr T40) al (by rw [HOF.out]) (by omega) ?_ R3.out
      rw [HOF.out, HPR.out, mul_min HMN.out.1, HN.out]
    | nil =>
      intro tb ts hsh hin w sa ma sc mc hs hm
      have hsi := shaped_iff.1 hsh
      have hl2 : l.length ≤ 32 := hsd.few
      have r1 := (Fr.refl no w).alloc (.cells #[.int .i64 tb, .int .i64 ts, .slice ma 0 mc] 25)
      have hb := heap_new w (.cells #[.int .i64 tb, .int .i64 ts, .slice ma 0 mc] 25)
      have HB := Lib.hid hb
      have HS1 := Lib.hid (hs.fr r1)
      have R1 := Lib.hid r1
      clear r1 hb hs hm
      rw [List.length_nil]
      obtain ⟨f0, f1, f2⟩ := ce3 HB.out
      by_cases h9 : tb = 9
      case neg =>
        have hb8 : 1 ≤ tb ∧ tb ≤ 8 := by
          have h1 := hsi.1
          have h5 := hsi.2.2.2.2.1
          have : tb ≠ 0 := fun e => by have := h5 e; simp at this
          dsimp only at h1
          omega
        have HOF : Hid (ofM (whole l) ⟨tb, ts, []⟩ = (sizeB tb, sizeB tb)) := Lib.hid (by
          show modsM (baseM (whole l) ⟨tb, ts, []⟩) [] = _
          unfold modsM baseM
          rw [if_neg h9])
        have HBY := Lib.hid (fun w => bytes_ok w tb)
        rw [sizeB_N hb8] at HBY
        have hsb := sizeB_ge hb8
        have e9 : (tb != 9) = true := by simpa using h9
        clear hsi hsh hin hb8 h9
        generalize sizeB tb = sz at *
        go_enter Tryd.func37, Tryd.ntmps37
        go_wp2_with fail
        generalize w.alloc (.cells #[.int .i64 tb, .int .i64 ts, .slice ma 0 mc] 25) = w1 at *
        generalize w.heap.size = TB at *
        have rd := (Fr.refl no w1).drew
        have c0 := rd.cell f0 (by simp)
        have C0 := Lib.hid c0
        have Rd := Lib.hid (R1.out.trans rd)
        clear f0 f1 f2 rd c0 HB HS1 R1
        refine Lex.region [2, 5] [8] (by kernel_rfl) (by kernel_rfl) ?_
        refine Lex.opens (fun w' => w'.cell? ⟨TB, 0, none⟩ = some (.int .i64 tb)) (C0.out) ?_
        generalize w1.drew = w2 at *
        repeat (first
          | (refine Lex.skips (by rfl) ?_; (try simp only [Act.put, List.setIfInBounds_toArray, List.set_cons_zero, List.set_cons_succ]))
          | (refine Lex.quiet (v := ?_) (by rfl) (by rfl) ?_ ?_; rotate_left; (focus (intro w' hS'; go_simp; try rfl)); (try simp only [Act.put, List.setIfInBounds_toArray, List.set_cons_zero, List.set_cons_succ])))
        refine Lex.loud (by rfl) (by rfl) ?_
        intro K' hK'
        go_simp
        refine (HBY.out w2).mono ?_
        rintro e w' ⟨rfl, rfl⟩
        refine hK' _ _ (C0.out) ?_
        clear hK'
        try simp only [Act.put, List.setIfInBounds_toArray, List.set_cons_zero, List.set_cons_succ]
        repeat (first
          | (refine Lex.skips (by rfl) ?_; (try simp only [Act.put, List.setIfInBounds_toArray, List.set_cons_zero, List.set_cons_succ]))
          | (refine Lex.quiet (v := ?_) (by rfl) (by rfl) ?_ ?_; rotate_left; (focus (intro w' hS'; go_simp; try rfl)); (try simp only [Act.put, List.setIfInBounds_toArray, List.set_cons_zero, List.set_cons_succ])))
        refine Lex.loud (by rfl) (by rfl) ?_
        intro K' hK'
        go_simp
        refine (HBY.out w2).mono ?_
        rintro e w' ⟨rfl, rfl⟩
        refine hK' _ _ (C0.out) ?_
        clear hK'
        try simp only [Act.put, List.setIfInBounds_toArray, List.set_cons_zero, List.set_cons_succ]
        repeat (first
          | (refine Lex.skips (by rfl) ?_; (try simp only [Act.put, List.setIfInBounds_toArray, List.set_cons_zero, List.set_cons_succ]))
          | (refine Lex.quiet (v := ?_) (by rfl) (by rfl) ?_ ?_; rotate_left; (focus (intro w' hS'; go_simp; try rfl)); (try simp only [Act.put, List.setIfInBounds_toArray, List.set_cons_zero, List.set_cons_succ])))
        refine Lex.done ?_
        refine Lex.ends ?_
        go_wp2_with fail
        go_ret2
        exact MeasR.of sz sz (by rw [HOF.out]) (by rw [T40_eq]; omega) (by rw [HOF.out]; dsimp only; omega) Rd.out
      subst h9
      have hts := hsi.2.2.1 rfl
      have hlt := hin rfl
      dsimp only at hts
      obtain ⟨s, rfl⟩ := Int.eq_ofNat_of_zero_le hts.1
      have hsl : s < l.length := by omega
      have hsl' : (s : Int) < l.length := by omega
      have HIH := Lib.hid (IH s (by omega))
      have HWS := Lib.hid (whole_sound hsd hsl)
      have HMO := Lib.hid (fun k hk => most_le hsd (s := s) k hk)
      have HAL := Lib.hid (hsd.al hsl)
      have HOF : Hid (ofM (whole l) ⟨9, s, []⟩ = whole l s) := Lib.hid (of_whole l s)
      have HES := Lib.hid (fun k hk => endAt_succ l s k hk)
      have HMS := Lib.hid (fun k hk => mostAt_succ l s k hk)
      have HE0 := Lib.hid (endAt_zero l s)
      have HM0 := Lib.hid (mostAt_zero l s)
      have HST := Lib.hid (HS1.out s hsl)
      have hfe : l[s].fs = fieldsAt l s := by unfold fieldsAt; rw [List.getElem?_eq_getElem hsl]
      rw [hfe] at HST
      have HFS := Lib.hid (fun f (hf : f ∈ fieldsAt l s) => hsd.sh s f hf)
      have HFD := Lib.hid (fun f (hf : f ∈ fieldsAt l s) (hi : insideB f.t = true) => (hsd.down s f hf hi).2)
      have HFA := Lib.hid (fun f (hf : f ∈ fieldsAt l s) => hsd.of_al (hsd.sh s f hf))
      have hfl := hsd.le s
      obtain ⟨fs, hfs⟩ : ∃ x, x = fieldsAt l s := ⟨_, rfl⟩
      rw [← hfs] at HST HFS HFD HFA HWS hfl HMO HES HMS
      clear hfs hfe hsi hsh hin hts hlt
      go_enter Tryd.func37, Tryd.ntmps37
      obtain ⟨b, of, fa, fc, rfl, hA, hF⟩ := HST.out
      have d1 := hA 1 _ rfl
      have HF := Lib.hid hF
      clear hA hF HST
      go_upto_region 11 with fail
      clear d1 f0 f1 f2
      generalize w.alloc (.cells #[.int .i64 9, .int .i64 s, .slice ma 0 mc] 25) = w1 at *
      generalize w.heap.size = TB at *
      go_loopw [8, 9, 11] (fun x y z wr => ∃ k n : Nat, z = .int .i64 k ∧ k ≤ fs.length ∧ x = .int .i64 n ∧ n ≤ T40 ∧ Hid (min n 8193 = endAt l s k) ∧ y = .int .i64 (mostAt l s k : Nat) ∧ Hid (Fr no w1 wr)) (fun _ _ z _ => (fs.length - intOf z).toNat)
      case atStart => exact ⟨0, 0, rfl, by omega, rfl, by rw [T40_eq]; omega, Lib.hid (by rw [HE0.out]; omega), by rw [HM0.out]; rfl, Lib.hid (Fr.refl _ _)⟩
      case round =>
        obtain ⟨k, n, rfl, hk, rfl, hn, hmi, rfl, hfr⟩ := hrel
        have hmo := HMO.out k hk
        rw [T40_eq] at hn
        obtain ⟨wz, hwz⟩ : ∃ x, x = wr := ⟨_, rfl⟩
        subst hwz
        by_cases hkl : k < fs.length
        case neg =>
          obtain rfl : k = fs.length := by omega
          have HUP := Lib.hid (rup_ok wz n (mostAt l s fs.length) (by omega) hmo)
          have HWQ := Lib.hid HWS.out.1
          have hup := upN_lt n (mostAt l s fs.length) hmo.1
          have HUM := Lib.hid (up_min (n := n) hmo.1)
          obtain ⟨u, hu⟩ : ∃ x, x = upN n (mostAt l s fs.length) := ⟨_, rfl⟩
          rw [← hu] at HUP hup HUM
          obtain ⟨mo, hmm⟩ : ∃ x, x = mostAt l s fs.length := ⟨_, rfl⟩
          rw [← hmm] at HUP hup HUM HWQ hmo ⊢
          clear hu hmm hkl
          go_wp2_with fail
          refine HUP.out.mono ?_
          rintro e w' ⟨rfl, rfl⟩
          go_wp2_with fail
          go_ret2
          refine MeasR.of u mo (by rw [HOF.out, HWQ.out]) (by rw [T40_eq]; omega) ?_ (R1.out.trans hfr.out)
          rw [HOF.out, HWS.out.2, HUM.out, hmi.out, HWQ.out]
        have hkl' : (k : Int) < fs.length := by omega
        obtain ⟨b2, o2, ma2, mc2, rfl, hB, hM⟩ := HF.out k hkl
        have hf := List.getElem_mem hkl
        have HCM := Lib.hid (fun w' (r : Fr no w1 w') => HIH.out fs[k].t (HFS.out _ hf) (fun h => HFD.out _ hf h) w' _ _ sc mc2 (HS1.out.fr r) (hM.fr r))
        have hal := HFA.out _ hf
        have HNE := Lib.hid (HES.out k hkl)
        have HNM := Lib.hid (HMS.out k hkl)
        have HAT : Hid (At w1 b2 (o2 + k * 4 + 1) [.int .i64 fs[k].t.b, .int .i64 fs[k].t.s, .slice ma2 fs[k].t.ms.length mc2]) := Lib.hid (fun j v hj => by
          have := hB (j + 1) v (by simpa using hj)
          rwa [← Nat.add_assoc, Nat.add_right_comm] at this)
        have HATz := Lib.hid (At.fr HAT.out hfr.out)
        have HC := Lib.hid (HCM.out wz hfr.out)
        clear hB hM HAT HCM hf
        generalize fs[k].t = ft at *
        obtain ⟨a, ha⟩ : ∃ x, x = (ofM (whole l) ft).2 := ⟨_, rfl⟩
        rw [← ha] at hal HNE HNM
        have HA := Lib.hid ha.symm
        clear ha
        obtain ⟨mo, hmm⟩ : ∃ x, x = mostAt l s k := ⟨_, rfl⟩
        rw [← hmm] at hmo HNM ⊢
        clear hmm
        go_wp2_with (refine wpList_load_in rfl 25 (.tmp 76) rfl b2 (o2 + k * 4 + 1) rfl _ _ HATz.out Tryd.underlying25 rfl (by rw [infoTy]; rfl) ?_; simp only [Act.put, List.setIfInBounds_toArray, List.set_cons_zero, List.set_cons_succ])
        refine HC.out.mono ?_
        rintro e w3 ⟨n2, rfl, hn2, hmi2, r3⟩
        rw [HA.out]
        rw [T40_eq] at hn2
        have HI2 := Lib.hid hmi2
        have RF := Lib.hid (hfr.out.trans r3)
        have HUP := Lib.hid (rup_ok w3 n a (by omega) hal)
        have hup := upN_lt n a hal.1
        have HSM := Lib.hid (step_min (n := n) (k := a) (m := n2) hal.1)
        obtain ⟨u, hu⟩ : ∃ x, x = upN n a := ⟨_, rfl⟩
        rw [← hu] at HUP hup HSM
        clear hu hmi2 r3 HC HATz HA
        go_wp2_with fail
        refine HUP.out.mono ?_
        rintro e w' ⟨rfl, rfl⟩
        go_wp2_with fail
        go_roundw
        case rel => exact ⟨k + 1, min (u + n2) T40, by go_num, by omega, by congr 1; rw [T40_eq]; omega, by omega, Lib.hid (by rw [HNE.out, HSM.out, hmi.out, HI2.out]), by rw [HNM.out]; congr 1; omega, RF⟩
        case measure => first | (simp [intOf]; done) | (simp [intOf]; omega)

  intro t hsh hin w sa ma sc mc hs hm
  exact main t.ms t.b t.s hsh hin w sa ma sc mc hs hm

theorem measOk (l : List St) (hsd : Sound l) : ∀ N, MeasOk l N := by
  intro N
  induction N using Nat.strongRecOn with
  | ind N ih => exact meas_rec l hsd N ih
theorem meas_ok (l : List St) (hsd : Sound l) (t : Ty) (ht : shapedB l.length t = true) (w : World) (sa ma : Option Addr) (sc mc : Nat) (hs : SlIn w sa l) (hm : TIn w ma mc t.ms) :
    Calls Tryd.prog 37 #[.slice sa l.length sc, .agg #[.int .i64 t.b, .int .i64 t.s, .slice ma t.ms.length mc]] w (MeasR l t w) :=
  measOk l hsd (t.s.toNat + 1) t ht (fun _ => by omega) w sa ma sc mc hs hm

end Go.Proofs.YtjpkmaacalelcaaDoor

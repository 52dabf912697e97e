/- The document's digits, Text (law24). -/
import Derived.Test.YtjpkmaacalelcaaDoorE3
import Derived.Test.YtjpkmaacalelcaaDoorDq
import Derived.Laws.BytesArg
set_option linter.unusedSimpArgs false
set_option linter.unusedVariables false
set_option linter.unusedSectionVars false
set_option linter.unnecessarySimpa false
set_option maxRecDepth 100000
namespace Go.Proofs.YtjpkmaacalelcaaDoor
open Go.RowKit Go.Ty Go.Deep Go.Sort

attribute [local go_sem] Program.isFuncB Program.isSliceB

variable {w w' w'' w0 : World}

set_option maxRecDepth 100000 in
set_option maxHeartbeats 4000000 in
theorem digits_ok (w : World) (n : Nat) (hn : 1 ≤ n ∧ n ≤ 8192) : Calls Tryd.prog 39 #[.int .i64 n] w fun e w' => e = .returned (.string (bA (Lib.decDigits n))) ∧ Fr no w w' := by
  obtain ⟨h1, h2⟩ := hn
  go_enter Tryd.func39, Tryd.ntmps39
  go_upto_region 2 with fail
  go_loopw [0, 3] (fun x y wr => ∃ (m : Nat) (acc : List UInt8), x = .int .i64 m ∧ m ≤ n ∧ y = .string (bA acc) ∧ acc.length + m ≤ 8192 + 10 ∧ Hid ((0 < m → Lib.decDigits n = Lib.decDigits m ++ acc) ∧ (m = 0 → Lib.decDigits n = acc)) ∧ Hid (Fr no w wr)) (fun x _ _ => (intOf x).toNat)
  case atStart => exact ⟨n, [], rfl, by omega, rfl, by simp; omega, Lib.hid ⟨fun _ => by simp, fun h => by omega⟩, Lib.hid (Fr.refl _ _)⟩
  case round =>
    obtain ⟨m, acc, rfl, hm, rfl, hal, hpre, hfr⟩ := hrel
    by_cases h0 : 0 < m
    case neg =>
      obtain rfl : m = 0 := by omega
      have hr := Lib.hid (hpre.out.2 rfl)
      have h0' : ¬ (0 : Int) < ((0 : Nat) : Int) := by omega
      clear h0 hpre
      go_wp2_with fail
      go_ret
      exact ⟨by rw [hr.out]; rfl, hfr.out⟩
    have h0' : (0 : Int) < m := by omega
    have hconv : (convert 83 9 (.slice (some ⟨wr.heap.size, 0, none⟩) 1 1)).run Tryd.prog (wr.alloc (.cells #[.int .u8 (48 + (m : Int) % 10)] 5)) = .ok (.string (bA [UInt8.ofNat (48 + m % 10)])) (wr.alloc (.cells #[.int .u8 (48 + (m : Int) % 10)] 5)) := by
      have h := run_convert_bytes_arg (P := Tryd.prog) (wr.alloc (.cells #[.int .u8 (48 + (m : Int) % 10)] 5)) 83 5 Tryd.underlying83 Tryd.underlying5 wr.heap.size 0 1 1 [48 + (m : Int) % 10] rfl (fun i hi => by
        have : i = 0 := by omega
        subst this
        exact cell_of_heap (heap_new wr (.cells #[.int .u8 (48 + (m : Int) % 10)] 5)) rfl) 9 Tryd.underlying9
      rw [h]
      congr 2
    have hR := (Fr.refl no wr).alloc (.cells #[.int .u8 (48 + (m : Int) % 10)] 5)
    have RN := Lib.hid (hfr.out.trans hR)
    have hsz : (bA acc).size ≤ 8202 := by rw [bA_size]; omega
    have hsz1 : (bA [UInt8.ofNat (48 + m % 10)]).size = 1 := by rw [bA_size]; rfl
    have HAPP : Hid (bA [UInt8.ofNat (48 + m % 10)] ++ bA acc = bA (UInt8.ofNat (48 + m % 10) :: acc)) := Lib.hid (by rw [bA_app]; rfl)
    have HST : Hid ((0 < m / 10 → Lib.decDigits n = Lib.decDigits (m / 10) ++ UInt8.ofNat (48 + m % 10) :: acc) ∧ (m / 10 = 0 → Lib.decDigits n = UInt8.ofNat (48 + m % 10) :: acc)) := Lib.hid (by
      have h3 := hpre.out.1 h0
      refine ⟨fun h => ?_, fun h => ?_⟩
      · rw [h3, dec_big (show ¬ m < 10 by omega), List.append_assoc]
        rfl
      · rw [h3, dec_one (show m < 10 by omega)]
        have : m % 10 = m := by omega
        rw [this]
        rfl)
    clear hpre hR
    generalize UInt8.ofNat (48 + m % 10) = dg at *
    go_wp2_with fail
    go_roundw
    case rel => exact ⟨m / 10, dg :: acc, congrArg _ (by omega), by omega, by rw [HAPP.out], by simp; omega, HST, RN⟩
    case measure => first | (simp [intOf]; done) | (simp [intOf]; omega)

set_option maxRecDepth 100000 in
set_option maxHeartbeats 4000000 in
theorem rtext_ok (l : List St) (hsm : SmallS l) (t : Ty) (w : World) (sa ma : Option Addr) (sc mc : Nat) (hs : SlIn w sa l) (hm : TIn w ma mc t.ms) :
    Calls Tryd.prog 17 #[.slice sa l.length sc, .agg #[.int .i64 t.b, .int .i64 t.s, .slice ma t.ms.length mc]] w fun e w' => e = .returned (.tuple #[.string (textV l t), .int .i64 (checkE l t)]) ∧ Fr no w w' := by
  have r1 := (Fr.refl no w).alloc (.cells #[.int .i64 t.b, .int .i64 t.s, .slice ma t.ms.length mc] 25)
  have hb := heap_new w (.cells #[.int .i64 t.b, .int .i64 t.s, .slice ma t.ms.length mc] 25)
  have HB := Lib.hid hb
  have HM := Lib.hid (hm.fr r1)
  have HS := Lib.hid (hs.fr r1)
  have R1 := Lib.hid r1
  have HNS := Lib.hid hsm.nms
  have HCK := Lib.hid (fun w sa sc ma mc hs hm => rcheck_ok l hsm t w sa ma sc mc hs hm)
  have HV : Hid (textV l t = if checkE l t = 0 then bA (textL l t) else bA []) := Lib.hid rfl
  have HOK := Lib.hid (@checkE_ok l t)
  have HCS := checkE_cases l t
  have HTX : Hid (textL l t = toksM t.ms ++ lastT l t) := Lib.hid rfl
  have HLA : Hid (lastT l t = if t.b = 9 then nmAt l t.s.toNat else baseNm t.b) := Lib.hid rfl
  have HSH := Lib.hid (@shaped_iff l.length t)
  obtain ⟨tb, ts, tms⟩ := t
  dsimp only at *
  generalize textV l ⟨tb, ts, tms⟩ = res at *
  generalize checkE l ⟨tb, ts, tms⟩ = ck at *
  generalize textL l ⟨tb, ts, tms⟩ = txt at *
  generalize lastT l ⟨tb, ts, tms⟩ = lst at *
  clear hm hs r1 hb hsm
  go_enter Tryd.func17, Tryd.ntmps17
  go_upto_region 1 with fail
  generalize w.alloc (.cells #[.int .i64 tb, .int .i64 ts, .slice ma tms.length mc] 25) = w1 at *
  generalize w.heap.size = TB at *
  go_wp2_with (refine wpList_load_row rfl 25 (.tmp 3) rfl TB rfl _ _ _ _ HB.out Tryd.underlying25 rfl (by rw [infoTy]; rfl) ?_; simp only [Act.put, List.setIfInBounds_toArray, List.set_cons_zero, List.set_cons_succ])
  refine (HCK.out w1 sa sc ma mc HS.out HM.out).mono ?_
  rintro e w2 ⟨rfl, r2⟩
  have HB2 := Lib.hid (r2.heap HB.out (by simp))
  have HM2 := Lib.hid (HM.out.fr r2)
  have HS2 := Lib.hid (HS.out.fr r2)
  have R2 := Lib.hid (R1.out.trans r2)
  clear r2 HB HM HS R1 HCK
  by_cases h0 : ck = 0
  case neg =>
    have hz2 : ((ck : Int) != 0) = true := by rw [bne_iff_ne]; omega
    have hr : Hid (res = bA []) := Lib.hid (by rw [HV.out, if_neg h0])
    clear h0 HCS HV
    go_wp2_with fail
    go_ret2
    exact ⟨by rw [hr.out]; rfl, R2.out⟩
  subst h0
  have hr : Hid (res = bA (toksM tms ++ lst)) := Lib.hid (by rw [HV.out, if_pos rfl, HTX.out])
  have hsh := HSH.out.1 (HOK.out.1 rfl).2.1
  have hl8 : tms.length ≤ 8 := hsh.2.1
  have HAL := Lib.hid hsh.2.2.2.2.2
  have hbb := hsh.1
  have HSS : Hid (tb = 9 → 0 ≤ ts ∧ ts < l.length) := Lib.hid hsh.2.2.1
  have hz2 : ((0 : Int) != 0) = false := rfl
  clear HV HCS HOK HSH HTX hsh
  go_upto_region 6 with fail
  go_loopw [7, 8] (fun x z wr => ∃ i : Nat, z = .int .i64 i ∧ i ≤ tms.length ∧ x = .string (bA (toksM (tms.take i))) ∧ Hid (Fr no w2 wr)) (fun _ z _ => (tms.length - intOf z).toNat)
  case atStart => exact ⟨0, rfl, by omega, rfl, Lib.hid (Fr.refl _ _)⟩
  case round =>
    obtain ⟨i, rfl, hi, rfl, hfr⟩ := hrel
    have htl := toks_len (tms.take i) (by rw [List.all_eq_true]; intro x hx; exact List.all_eq_true.1 HAL.out x (List.mem_of_mem_take hx))
    have hsz : (bA (toksM (tms.take i))).size ≤ 300 := by rw [bA_size]; have := List.length_take_le i tms; omega
    obtain ⟨f0, f1, f2⟩ := ce3 (hfr.out.heap HB2.out (by simp))
    clear htl
    by_cases hlt : i < tms.length
    · have hlt' : (i : Int) < tms.length := by omega
      obtain ⟨g, o, rfl, d⟩ := reads_int HM2.out hlt
      have d' := hfr.out.cell d (by simp)
      have hmb : modB tms[i] = true := List.all_eq_true.1 HAL.out _ (List.getElem_mem hlt)
      have HTK := Lib.hid (toks_succ tms i hlt)
      have hml := itoa_len hmb
      clear d
      generalize tms[i] = m at *
      generalize toksM (tms.take i) = acc at *
      by_cases hm1 : m = -1
      · subst hm1
        clear hmb hml
        go_wp2_with fail
        go_roundw
        case rel => exact ⟨i + 1, by go_num, by omega, by rw [HTK.out]; show Value.string (bA acc ++ bA [112, 116, 114, 32]) = _; rw [bA_app]; rfl, hfr⟩
        case measure => first | (simp [intOf]; done) | (simp [intOf]; omega)
      · have e1 : (m == -1) = false := by simpa using hm1
        have hmr : 1 ≤ m ∧ m ≤ 8192 := by unfold modB at hmb; simp [hm1] at hmb; omega
        rw [itoa_pos hmr.1] at hml
        have e2 : Hid (toksM (tms.take (i + 1)) = acc ++ ([97, 114, 114, 32] ++ Lib.decDigits m.toNat ++ [32])) := Lib.hid (by rw [HTK.out, tokM, if_neg hm1, itoa_pos hmr.1])
        obtain ⟨mn, rfl⟩ := Int.eq_ofNat_of_zero_le (show 0 ≤ m by omega)
        rw [Int.toNat_natCast] at e2 hml
        have HDG := Lib.hid (digits_ok wr mn (by omega))
        have hdz : (bA (Lib.decDigits mn)).size ≤ 21 := by rw [bA_size]; exact hml
        generalize Lib.decDigits mn = dd at *
        clear hm1 hmb hml hmr
        go_wp2_with fail
        refine HDG.out.mono ?_
        rintro e w3 ⟨rfl, r3⟩
        go_wp2_with fail
        go_roundw
        case rel => exact ⟨i + 1, by go_num, by omega, by rw [e2.out]; show Value.string (bA acc ++ bA [97, 114, 114, 32] ++ bA dd ++ bA [32]) = _; rw [bA_app, bA_app, bA_app]; simp [List.append_assoc], Lib.hid (hfr.out.trans r3)⟩
        case measure => first | (simp [intOf]; done) | (simp [intOf]; omega)
    · obtain rfl : i = tms.length := by omega
      rw [List.take_length] at hsz ⊢
      have RF := Lib.hid (R2.out.trans hfr.out)
      generalize toksM tms = acc at *
      by_cases h9 : tb = 9
      · subst h9
        obtain ⟨hs1, hs2⟩ := HSS.out rfl
        obtain ⟨n, rfl⟩ := Int.eq_ofNat_of_zero_le hs1
        have hnl : n < l.length := by omega
        obtain ⟨b, o, fa, fc, rfl, hA, -⟩ := (HS2.out.fr hfr.out) n hnl
        have c := hA 0 _ rfl
        rw [Nat.add_zero] at c
        have hnz := HNS.out l[n] (List.getElem_mem hnl)
        have HN : Hid (lst = l[n].nm.data.toList) := Lib.hid (by rw [HLA.out, if_pos rfl, Int.toNat_natCast]; unfold nmAt; rw [List.getElem?_eq_getElem hnl])
        generalize l[n].nm = nm at *
        clear hA hs1 hlt hi hfr HAL
        go_wp2_with fail
        go_ret2
        refine ⟨?_, RF.out⟩
        rw [hr.out, HN.out, ← bA_app]
        rfl
      · have e9 : (tb == 9) = false := by simpa using h9
        have HN : Hid (lst = baseNm tb) := Lib.hid (by rw [HLA.out, if_neg h9])
        obtain ⟨n, rfl⟩ := Int.eq_ofNat_of_zero_le hbb.1
        have hn8 : n ≤ 8 := by omega
        have hn9 : (n : Int) < 9 := by omega
        have hcell : (wr.alloc (.cells #[.string ⟨#[118, 111, 105, 100]⟩, .string ⟨#[115, 56]⟩, .string ⟨#[117, 56]⟩, .string ⟨#[115, 49, 54]⟩, .string ⟨#[117, 49, 54]⟩, .string ⟨#[115, 51, 50]⟩, .string ⟨#[117, 51, 50]⟩, .string ⟨#[115, 54, 52]⟩, .string ⟨#[117, 54, 52]⟩] 9)).cell? ⟨wr.heap.size, n, none⟩ = some (.string (bA (baseNm n))) := by
          refine cell_of_heap (heap_new wr _) ?_
          have : n = 0 ∨ n = 1 ∨ n = 2 ∨ n = 3 ∨ n = 4 ∨ n = 5 ∨ n = 6 ∨ n = 7 ∨ n = 8 := by omega
          rcases this with rfl | rfl | rfl | rfl | rfl | rfl | rfl | rfl | rfl <;> rfl
        have hbl : (bA (baseNm (n : Int))).size ≤ 100 := by
          have : n = 0 ∨ n = 1 ∨ n = 2 ∨ n = 3 ∨ n = 4 ∨ n = 5 ∨ n = 6 ∨ n = 7 ∨ n = 8 := by omega
          rcases this with rfl | rfl | rfl | rfl | rfl | rfl | rfl | rfl | rfl <;> decide
        have f0' := (((Fr.refl no wr).alloc (.cells #[.string ⟨#[118, 111, 105, 100]⟩, .string ⟨#[115, 56]⟩, .string ⟨#[117, 56]⟩, .string ⟨#[115, 49, 54]⟩, .string ⟨#[117, 49, 54]⟩, .string ⟨#[115, 51, 50]⟩, .string ⟨#[117, 51, 50]⟩, .string ⟨#[115, 54, 52]⟩, .string ⟨#[117, 54, 52]⟩] 9))).cell f0 (by simp)
        generalize baseNm (n : Int) = bn at *
        clear hbb h9 hlt hi hfr HAL HLA hn8
        go_wp2_with fail
        go_ret2
        refine ⟨?_, RF.out.alloc _⟩
        rw [hr.out, HN.out, ← bA_app]
        rfl

end Go.Proofs.YtjpkmaacalelcaaDoor

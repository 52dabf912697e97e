/- The text of a type (law24). -/
import Derived.Test.YtjpkmaacalelcaaDoorY17
import Derived.Lib.LaidTab
import Derived.Lib.ItoaLen
set_option linter.unusedSimpArgs false
set_option linter.unusedVariables false
set_option linter.unusedSectionVars false
set_option linter.unnecessarySimpa false
set_option maxRecDepth 100000
namespace Go.Proofs.YtjpkmaacalelcaaDoor
open Go.RowKit Go.Ty Go.Deep Go.Sort

attribute [local go_sem] Program.isFuncB Program.isSliceB

variable {w w' w'' w0 : World}

/-- the table of the number printer -/
def Tb (w : World) : Prop := Lib.TabIs Tryd.prog w "internal/strconv.uint64pow10" .u64 Lib.pow10Tab
theorem Tb.fr (h : Tb w) (r : Fr no w w') : Tb w' := by
  unfold Tb Lib.TabIs World.var? at h ⊢
  rw [Option.bind_eq_some_iff] at h ⊢
  obtain ⟨g, hg, h⟩ := h
  refine ⟨g, hg, ?_⟩
  cases hc : w.heap[g]? with
  | none => rw [hc] at h; cases h
  | some o =>
    rw [r.heap hc (by simp)]
    rw [hc] at h
    exact h
theorem grow_fr (w : World) (os : Array Obj) : Fr no w (grow w os) :=
  ⟨rfl, rfl, rfl, by simp [grow], fun k hk _ => by simp [grow, Array.getElem?_append, hk]⟩
theorem itoa_ok (w : World) (h : Tb w) (n : Int) (h0 : -9223372036854775808 ≤ n) (h1 : n ≤ 9223372036854775807) :
    Calls Tryd.prog 38 #[.int .i64 n] w fun e w' => e = .returned (.string ⟨(Lib.itoa n).toArray⟩) ∧ Fr no w w' := by
  refine (Tryd.strconv_Itoa n h0 h1 w h).mono ?_
  rintro e w' ⟨rfl, k, os, rfl⟩
  exact ⟨rfl, ((Fr.refl no w).drewN k).trans (grow_fr _ _)⟩

def tokM (m : Int) : List UInt8 := if m = -1 then [112, 116, 114, 32] else [97, 114, 114, 32] ++ Lib.itoa m ++ [32]
def toksM (ms : List Int) : List UInt8 := ms.flatMap tokM
def baseNm (b : Int) : List UInt8 := [[118, 111, 105, 100], [115, 56], [117, 56], [115, 49, 54], [117, 49, 54], [115, 51, 50], [117, 51, 50], [115, 54, 52], [117, 54, 52]].getD b.toNat []
def nmAt (l : List St) (i : Nat) : List UInt8 := match l[i]? with | some s => s.nm.data.toList | none => []
def lastT (l : List St) (t : Ty) : List UInt8 := if t.b = 9 then nmAt l t.s.toNat else baseNm t.b
def textL (l : List St) (t : Ty) : List UInt8 := toksM t.ms ++ lastT l t
def bA (l : List UInt8) : ByteArray := ⟨l.toArray⟩
def textV (l : List St) (t : Ty) : ByteArray := if checkE l t = 0 then bA (textL l t) else bA []
/-- names that are not long -/
def NmS (l : List St) : Prop := ∀ s ∈ l, s.nm.size ≤ 40

theorem bA_app (a b : List UInt8) : bA a ++ bA b = bA (a ++ b) := by
  unfold bA
  apply ByteArray.ext
  simp
theorem bA_size (a : List UInt8) : (bA a).size = a.length := by
  unfold bA
  simp [ByteArray.size]
theorem toks_succ (ms : List Int) (i : Nat) (h : i < ms.length) : toksM (ms.take (i + 1)) = toksM (ms.take i) ++ tokM ms[i] := by
  unfold toksM
  rw [List.take_succ_eq_append_getElem h, List.flatMap_append]
  simp
theorem itoa_len {m : Int} (h : modB m = true) : (Lib.itoa m).length ≤ 21 := by
  refine Lib.itoa_length_le m ?_ ?_
  · unfold modB at h; simp at h; omega
  · unfold modB at h; simp at h; omega
theorem tok_len {m : Int} (h : modB m = true) : (tokM m).length ≤ 26 := by
  unfold tokM
  split
  · simp
  · have := itoa_len h
    simp; omega
theorem toks_len : ∀ (ms : List Int), ms.all modB = true → (toksM ms).length ≤ 26 * ms.length
  | [], _ => by simp [toksM]
  | m :: r, h => by
    rw [List.all_cons, Bool.and_eq_true] at h
    have h1 := tok_len h.1
    have h2 := toks_len r h.2
    unfold toksM at h2 ⊢
    rw [List.flatMap_cons, List.length_append, List.length_cons]
    omega
theorem names9 (b : Int) (h : 0 ≤ b ∧ b ≤ 8) (w : World) :
    (Instr.index 65 (.agg #[.string ⟨#[118, 111, 105, 100]⟩, .string ⟨#[115, 56]⟩, .string ⟨#[117, 56]⟩, .string ⟨#[115, 49, 54]⟩, .string ⟨#[117, 49, 54]⟩, .string ⟨#[115, 51, 50]⟩, .string ⟨#[117, 51, 50]⟩, .string ⟨#[115, 54, 52]⟩, .string ⟨#[117, 54, 52]⟩]) (.int .i64 b)).run Tryd.prog w = .ok (.string (bA (baseNm b))) w := by
  have : b = 0 ∨ b = 1 ∨ b = 2 ∨ b = 3 ∨ b = 4 ∨ b = 5 ∨ b = 6 ∨ b = 7 ∨ b = 8 := by omega
  rcases this with rfl | rfl | rfl | rfl | rfl | rfl | rfl | rfl | rfl
  all_goals
    clear h
    show _ = _
    kernel_rfl

set_option maxRecDepth 100000 in
set_option maxHeartbeats 4000000 in
theorem text_ok (l : List St) (hn : NmOk l) (hns : NmS l) (t : Ty) (w : World) (sa ma : Option Addr) (sc mc : Nat) (hs : SlIn w sa l) (hm : TIn w ma mc t.ms) (ht : Tb w) :
    Calls Tryd.prog 16 #[.slice sa l.length sc, .agg #[.int .i64 t.b, .int .i64 t.s, .slice ma t.ms.length mc]] w fun e w' => e = .returned (.tuple #[.string (textV l t), .int .i64 (checkE l t)]) ∧ Fr no w w' := by
  have r1 := (Fr.refl no w).alloc (.cells #[.int .i64 t.b, .int .i64 t.s, .slice ma t.ms.length mc] 25)
  have hb := heap_new w (.cells #[.int .i64 t.b, .int .i64 t.s, .slice ma t.ms.length mc] 25)
  have HB := Lib.hid hb
  have HM := Lib.hid (hm.fr r1)
  have HS := Lib.hid (hs.fr r1)
  have HT := Lib.hid (ht.fr r1)
  have R1 := Lib.hid r1
  have HCK := Lib.hid (fun w sa sc ma mc hs hm => check_ok l hn t w sa ma sc mc hs hm)
  have HV : Hid (textV l t = if checkE l t = 0 then bA (textL l t) else bA []) := Lib.hid rfl
  have HOK := Lib.hid (@checkE_ok l t)
  have HCS := checkE_cases l t
  have HTX : Hid (textL l t = toksM t.ms ++ lastT l t) := Lib.hid rfl
  have HLA : Hid (lastT l t = if t.b = 9 then nmAt l t.s.toNat else baseNm t.b) := Lib.hid rfl
  have HSH := Lib.hid (@shaped_iff l.length t)
  obtain ⟨tb, ts, tms⟩ := t
  dsimp only at *
  generalize textV l ⟨tb, ts, tms⟩ = res at *
  generalize checkE l ⟨tb, ts, tms⟩ = ck at *
  generalize textL l ⟨tb, ts, tms⟩ = txt at *
  generalize lastT l ⟨tb, ts, tms⟩ = lst at *
  clear hm hs ht r1 hb
  go_enter Tryd.func16, Tryd.ntmps16
  go_upto_region 1 with fail
  generalize w.alloc (.cells #[.int .i64 tb, .int .i64 ts, .slice ma tms.length mc] 25) = w1 at *
  generalize w.heap.size = TB at *
  go_wp2_with (refine wpList_load_row rfl 25 (.tmp 3) rfl TB rfl _ _ _ _ HB.out Tryd.underlying25 rfl (by rw [infoTy]; rfl) ?_; simp only [Act.put, List.setIfInBounds_toArray, List.set_cons_zero, List.set_cons_succ])
  refine (HCK.out w1 sa sc ma mc HS.out HM.out).mono ?_
  rintro e w2 ⟨rfl, r2⟩
  have HB2 := Lib.hid (r2.heap HB.out (by simp))
  have HM2 := Lib.hid (HM.out.fr r2)
  have HS2 := Lib.hid (HS.out.fr r2)
  have HT2 := Lib.hid (HT.out.fr r2)
  have R2 := Lib.hid (R1.out.trans r2)
  clear r2 HB HM HS HT R1 HCK
  by_cases h0 : ck = 0
  case neg =>
    have hz2 : ((ck : Int) != 0) = true := by rw [bne_iff_ne]; omega
    have hr : Hid (res = bA []) := Lib.hid (by rw [HV.out, if_neg h0])
    clear h0 HCS HV
    go_wp2_with fail
    go_ret2
    exact ⟨by rw [hr.out]; rfl, R2.out⟩
  subst h0
  have hr : Hid (res = bA (toksM tms ++ lst)) := Lib.hid (by rw [HV.out, if_pos rfl, HTX.out])
  have hsh := HSH.out.1 (HOK.out.1 rfl).2.1
  have hl8 : tms.length ≤ 8 := hsh.2.1
  have HAL := Lib.hid hsh.2.2.2.2.2
  have hbb := hsh.1
  have HSS : Hid (tb = 9 → 0 ≤ ts ∧ ts < l.length) := Lib.hid hsh.2.2.1
  have hz2 : ((0 : Int) != 0) = false := rfl
  clear HV HCS HOK HSH HTX hsh
  obtain ⟨f0, f1, f2⟩ := ce3 HB2.out
  go_upto_region 6 with fail
  clear f0 f1 f2
  go_loopw [7, 9, 19] (fun x y z wr => ∃ i : Nat, z = .int .i64 i ∧ i ≤ tms.length ∧ x = .string (bA (toksM (tms.take i))) ∧ Hid (Fr no w2 wr)) (fun _ _ z _ => (tms.length - intOf z).toNat)
  case atStart => exact ⟨0, rfl, by omega, rfl, Lib.hid (Fr.refl _ _)⟩
  case round =>
    obtain ⟨i, rfl, hi, rfl, hfr⟩ := hrel
    have htl := toks_len (tms.take i) (by rw [List.all_eq_true]; intro x hx; exact List.all_eq_true.1 HAL.out x (List.mem_of_mem_take hx))
    have hsz : (bA (toksM (tms.take i))).size ≤ 300 := by rw [bA_size]; have := List.length_take_le i tms; omega
    clear htl
    by_cases hlt : i < tms.length
    · have hlt' : (i : Int) < tms.length := by omega
      obtain ⟨g, o, rfl, d⟩ := reads_int HM2.out hlt
      have d' := hfr.out.cell d (by simp)
      have hmb : modB tms[i] = true := List.all_eq_true.1 HAL.out _ (List.getElem_mem hlt)
      have HTK := Lib.hid (toks_succ tms i hlt)
      have hml := itoa_len hmb
      have hrange : -9223372036854775808 ≤ tms[i] ∧ tms[i] ≤ 9223372036854775807 := by unfold modB at hmb; simp at hmb; omega
      have HIT := Lib.hid (itoa_ok wr (HT2.out.fr hfr.out) tms[i] hrange.1 hrange.2)
      clear d hmb hrange
      generalize tms[i] = m at *
      generalize toksM (tms.take i) = acc at *
      by_cases hm1 : m = -1
      · subst hm1
        go_wp2_with fail
        go_roundw
        case rel => exact ⟨i + 1, by go_num, by omega, by rw [HTK.out]; show Value.string (bA acc ++ bA [112, 116, 114, 32]) = _; rw [bA_app]; rfl, hfr⟩
        case measure => first | (simp [intOf]; done) | (simp [intOf]; omega)
      · have e1 : (m == -1) = false := by simpa using hm1
        have e2 : Hid (toksM (tms.take (i + 1)) = acc ++ ([97, 114, 114, 32] ++ Lib.itoa m ++ [32])) := Lib.hid (by rw [HTK.out, tokM, if_neg hm1])
        clear hm1
        go_wp2_with fail
        refine HIT.out.mono ?_
        rintro e w3 ⟨rfl, r3⟩
        go_wp2_with fail
        go_roundw
        case rel => exact ⟨i + 1, by go_num, by omega, by rw [e2.out]; show Value.string (bA acc ++ (bA [97, 114, 114, 32] ++ bA (Lib.itoa m) ++ bA [32])) = _; rw [bA_app, bA_app, bA_app], Lib.hid (hfr.out.trans r3)⟩
        case measure => first | (simp [intOf]; done) | (simp [intOf]; omega)
    · obtain rfl : i = tms.length := by omega
      rw [List.take_length] at hsz ⊢
      obtain ⟨f0, f1, f2⟩ := ce3 (hfr.out.heap HB2.out (by simp))
      have RF := Lib.hid (R2.out.trans hfr.out)
      generalize toksM tms = acc at *
      by_cases h9 : tb = 9
      · subst h9
        obtain ⟨hs1, hs2⟩ := HSS.out rfl
        obtain ⟨n, rfl⟩ := Int.eq_ofNat_of_zero_le hs1
        have hnl : n < l.length := by omega
        obtain ⟨b, o, fa, fc, rfl, hA, -⟩ := (HS2.out.fr hfr.out) n hnl
        have c := hA 0 _ rfl
        rw [Nat.add_zero] at c
        have hnz := hns l[n] (List.getElem_mem hnl)
        have HN : Hid (lst = l[n].nm.data.toList) := Lib.hid (by rw [HLA.out, if_pos rfl, Int.toNat_natCast]; unfold nmAt; rw [List.getElem?_eq_getElem hnl])
        generalize l[n].nm = nm at *
        clear hA hs1 hlt hi hfr HAL
        go_wp2_with fail
        go_ret2
        refine ⟨?_, RF.out⟩
        rw [hr.out, HN.out, ← bA_app]
        rfl
      · have e9 : (tb == 9) = false := by simpa using h9
        have HNI := Lib.hid (names9 tb (by omega))
        have HN : Hid (lst = baseNm tb) := Lib.hid (by rw [HLA.out, if_neg h9])
        have hbl : (bA (baseNm tb)).size ≤ 100 := by
          have : tb = 0 ∨ tb = 1 ∨ tb = 2 ∨ tb = 3 ∨ tb = 4 ∨ tb = 5 ∨ tb = 6 ∨ tb = 7 ∨ tb = 8 := by omega
          rcases this with rfl | rfl | rfl | rfl | rfl | rfl | rfl | rfl | rfl <;> decide
        have hni := HNI.out wr
        generalize baseNm tb = bn at *
        clear h9 hlt hi hfr HAL HNI HLA
        go_wp2_with fail
        go_ret2
        refine ⟨?_, RF.out⟩
        rw [hr.out, HN.out, ← bA_app]
        rfl

end Go.Proofs.YtjpkmaacalelcaaDoor

/- The document's fields (law24). -/
import Derived.Test.YtjpkmaacalelcaaDoorE1
import Derived.Test.YtjpkmaacalelcaaDoorD5
set_option linter.unusedSimpArgs false
set_option linter.unusedVariables false
set_option linter.unusedSectionVars false
set_option linter.unnecessarySimpa false
set_option maxRecDepth 100000
namespace Go.Proofs.YtjpkmaacalelcaaDoor
open Go.RowKit Go.Ty Go.Deep

attribute [local go_sem] Program.isFuncB Program.isSliceB

variable {w w' w'' w0 : World}

theorem empty_list {nm : ByteArray} (h : nm ≠ ByteArray.empty) : ¬ nm.toList = [] ∧ nm.toList.isEmpty = false := by
  have h1 : (nm.toList == ByteArray.empty.toList) = false := by rw [bytes_eq, decide_eq_false h]
  have h2 : ByteArray.empty.toList = [] := by decide +kernel
  rw [h2] at h1
  have h3 : ¬ nm.toList = [] := fun e => by rw [e] at h1; cases h1
  exact ⟨h3, by cases hc : nm.toList with
    | nil => exact absurd hc h3
    | cons x r => rfl⟩
theorem stB_len {l : List St} {s : Nat} (h : ¬ (1 ≤ (fieldsAt l s).length ∧ (fieldsAt l s).length ≤ 16)) : stB l s = false := by
  unfold stB
  cases hc : decide (1 ≤ (fieldsAt l s).length) && decide ((fieldsAt l s).length ≤ 16)
  · rfl
  · rw [Bool.and_eq_true, decide_eq_true_eq, decide_eq_true_eq] at hc
    exact absurd hc h
theorem stB_fd {l : List St} {s k : Nat} (hk : k < (fieldsAt l s).length) (h : fdB l.length s (fieldsAt l s) k (fieldsAt l s)[k] = false) : stB l s = false := by
  unfold stB
  rw [fdsB_not k hk h, Bool.and_false]
theorem stB_all {l : List St} {s : Nat} (h : 1 ≤ (fieldsAt l s).length ∧ (fieldsAt l s).length ≤ 16) (h2 : ∀ k (hk : k < (fieldsAt l s).length), fdB l.length s (fieldsAt l s) k (fieldsAt l s)[k] = true) : stB l s = true := by
  unfold stB
  rw [fdsB_all h2, decide_eq_true h.1, decide_eq_true h.2]
  rfl
theorem fdB_false {many i k : Nat} {fs : List Ty.Fd} {f : Ty.Fd} (h : ¬ (f.nm ≠ ByteArray.empty ∧ (∀ j (hj : j < fs.length), j < k → fs[j].nm ≠ f.nm) ∧ shapedB many f.t = true ∧ (insideB f.t = true → f.t.s < i))) : fdB many i fs k f = false := by
  cases hc : fdB many i fs k f with
  | false => rfl
  | true =>
    exfalso
    unfold fdB at hc
    rw [Bool.and_eq_true, Bool.and_eq_true] at hc
    have h1 : memB (ByteArray.empty :: (fs.take k).map Ty.Fd.nm) f.nm = false := by simpa using hc.1.1
    refine h ⟨fun e => ?_, fun j hj hjk e => ?_, hc.1.2, fun hi => ?_⟩
    · have : memB (ByteArray.empty :: (fs.take k).map Ty.Fd.nm) f.nm = true := memB_iff.2 (by rw [e]; simp)
      rw [h1] at this; cases this
    · have : memB (ByteArray.empty :: (fs.take k).map Ty.Fd.nm) f.nm = true := memB_iff.2 (List.mem_cons.2 (.inr (List.mem_map.2 ⟨fs[j], by rw [List.mem_take_iff_getElem]; exact ⟨j, by omega, rfl⟩, e⟩)))
      rw [h1] at this; cases this
    · have h2 := hc.2
      rw [hi, Bool.true_and, Bool.not_eq_true', decide_eq_false_iff_not] at h2
      omega
theorem fdB_true {many i k : Nat} {fs : List Ty.Fd} {f : Ty.Fd} (h1 : f.nm ≠ ByteArray.empty) (h2 : ∀ j (hj : j < fs.length), j < k → fs[j].nm ≠ f.nm) (h3 : shapedB many f.t = true) (h4 : insideB f.t = true → f.t.s < i) : fdB many i fs k f = true := by
  unfold fdB
  rw [h3, Bool.and_true, Bool.and_eq_true]
  refine ⟨?_, ?_⟩
  · rw [Bool.not_eq_true', ← Bool.not_eq_true, memB_iff, List.mem_cons]
    rintro (e | e)
    · exact h1 e
    · obtain ⟨g, hg, e⟩ := List.mem_map.1 e
      rw [List.mem_take_iff_getElem] at hg
      obtain ⟨j, hj, rfl⟩ := hg
      exact h2 j (by omega) (by omega) e
  · cases hc : insideB f.t with
    | false => rfl
    | true =>
      rw [Bool.true_and, Bool.not_eq_true', decide_eq_false_iff_not]
      have := h4 hc
      omega
theorem small_fields {l : List St} (h : SmallS l) {s : Nat} (hs : s < l.length) : (fieldsAt l s).length ≤ 20 ∧ ∀ f ∈ fieldsAt l s, f.nm.size ≤ 40 ∧ f.t.ms.length ≤ 12 := by
  have e : fieldsAt l s = l[s].fs := by unfold fieldsAt; rw [List.getElem?_eq_getElem hs]
  rw [e]
  exact (h.2 l[s] (List.getElem_mem hs)).2

set_option maxRecDepth 100000 in
set_option maxHeartbeats 8000000 in
theorem rfields_ok (l : List St) (hsm : SmallS l) (s : Nat) (hsl : s < l.length) (w : World) (sa : Option Addr) (sc : Nat) (hs : SlIn w sa l) :
    Calls Tryd.prog 43 #[.slice sa l.length sc, .int .i64 s] w fun e w' => e = .returned (.bool (stB l s)) ∧ Fr no w w' := by
  have hl8 : l.length ≤ 8 := hsm.1
  have hsl' : (s : Int) < l.length := by omega
  have HST := Lib.hid (hs s hsl)
  have hfe : l[s].fs = fieldsAt l s := by unfold fieldsAt; rw [List.getElem?_eq_getElem hsl]
  rw [hfe] at HST
  have HSF := Lib.hid (small_fields hsm hsl)
  have HBL := Lib.hid (@stB_len l s)
  have HBF := Lib.hid (fun k hk h => @stB_fd l s k hk h)
  have HBA := Lib.hid (@stB_all l s)
  have HFF := Lib.hid (fun k f h => @fdB_false l.length s k (fieldsAt l s) f h)
  have HFT := Lib.hid (fun k f h1 h2 h3 h4 => @fdB_true l.length s k (fieldsAt l s) f h1 h2 h3 h4)
  obtain ⟨fs, hfs⟩ : ∃ x, x = fieldsAt l s := ⟨_, rfl⟩
  rw [← hfs] at HST HSF HBL HBF HBA HFF HFT
  generalize stB l s = res at *
  clear hfs hfe hs
  obtain ⟨b, of, fa, fc, rfl, hA, hF⟩ := HST.out
  have d1 := hA 1 _ rfl
  have HF := Lib.hid hF
  have hfl := HSF.out.1
  clear hA hF HST hsm
  go_enter Tryd.func43, Tryd.ntmps43
  go_upto_region 2 with fail
  clear d1
  by_cases h1 : 1 ≤ fs.length
  case neg =>
    have h1' : (fs.length : Int) < 1 := by omega
    have hr : Hid (res = false) := Lib.hid (HBL.out (fun h => h1 h.1))
    clear h1
    go_wp2_with fail
    go_ret
    exact ⟨by rw [hr.out]; rfl, Fr.refl _ _⟩
  have h1' : ¬ (fs.length : Int) < 1 := by omega
  by_cases h16 : fs.length ≤ 16
  case neg =>
    have h16' : (16 : Int) < fs.length := by omega
    have hr : Hid (res = false) := Lib.hid (HBL.out (fun h => h16 h.2))
    clear h16
    go_wp2_with fail
    go_ret
    exact ⟨by rw [hr.out]; rfl, Fr.refl _ _⟩
  have h16' : ¬ (16 : Int) < fs.length := by omega
  have HLN := Lib.hid (And.intro h1 h16)
  go_upto_region 5 with fail
  clear h1 h1' h16 h16'
  go_loopw [6, 7] (fun x _ wr => ∃ k : Nat, x = .int .i64 k ∧ k ≤ fs.length ∧ Hid (∀ j (h : j < fs.length), j < k → fdB l.length s fs j fs[j] = true) ∧ Hid (Fr no w wr)) (fun x _ _ => (fs.length - intOf x).toNat)
  case atStart => exact ⟨0, rfl, by omega, Lib.hid (fun j h h0 => by omega), Lib.hid (Fr.refl _ _)⟩
  case round =>
    obtain ⟨k, rfl, hk, hpre, hfr⟩ := hrel
    by_cases hkl : k < fs.length
    case neg =>
      obtain rfl : k = fs.length := by omega
      have hr : Hid (res = true) := Lib.hid (HBA.out HLN.out (fun j hj => hpre.out j hj hj))
      clear hpre hkl
      go_wp2_with fail
      go_ret
      exact ⟨by rw [hr.out]; rfl, hfr.out⟩
    have hkl' : (k : Int) < fs.length := by omega
    obtain ⟨b2, o2, ma, mc, rfl, hB, hM⟩ := HF.out k hkl
    have HTR := Lib.hid (fun j (hj : j < fs.length) => HF.out j hj)
    have hB' := At.fr hB hfr.out
    have d0 := hB' 0 _ rfl
    have d2 := hB' 2 _ rfl
    rw [Nat.add_zero] at d0
    have D0 := Lib.hid (hB 0 _ rfl)
    rw [Nat.add_zero] at D0
    have HAT : Hid (At wr b2 (o2 + k * 4 + 1) [.int .i64 fs[k].t.b, .int .i64 fs[k].t.s, .slice ma fs[k].t.ms.length mc]) := Lib.hid (fun j v hj => by
      have := hB' (j + 1) v (by simpa using hj)
      rwa [← Nat.add_assoc, Nat.add_right_comm] at this)
    have HAT0 : Hid (At w b2 (o2 + k * 4 + 1) [.int .i64 fs[k].t.b, .int .i64 fs[k].t.s, .slice ma fs[k].t.ms.length mc]) := Lib.hid (fun j v hj => by
      have := hB (j + 1) v (by simpa using hj)
      rwa [← Nat.add_assoc, Nat.add_right_comm] at this)
    have HM := Lib.hid hM
    have hz := HSF.out.2 fs[k] (List.getElem_mem hkl)
    have HBK := Lib.hid (fun h => HBF.out k hkl h)
    have HFK := Lib.hid (fun h => HFF.out k (fs[k]'hkl) h)
    have HTK := Lib.hid (fun h1 h2 h3 h4 => HFT.out k (fs[k]'hkl) h1 h2 h3 h4)
    have HNX : Hid (fdB l.length s fs k fs[k] = true → ∀ j (h : j < fs.length), j < k + 1 → fdB l.length s fs j fs[j] = true) := Lib.hid (fun hw j h hj => by
      rcases Nat.lt_or_ge j k with h2 | h2
      · exact hpre.out j h h2
      · have : j = k := by omega
        subst this; exact hw)
    obtain ⟨f, hf⟩ : ∃ x, x = fs[k] := ⟨_, rfl⟩
    rw [← hf] at HAT HAT0 HM hz HBK HFK HTK HNX d0 d2 D0
    clear hf hpre hB hM hB'
    obtain ⟨nm, tb, ts, tms⟩ := f
    dsimp only at *
    have HIN := Lib.hid (fun w (h : TIn w ma mc tms) => rinside_ok w tb ts tms ma mc h (by omega))
    have HSP := Lib.hid (fun w (h : TIn w ma mc tms) => rshape_ok w l.length tb ts tms ma mc h)
    obtain ⟨wz, hwz⟩ : ∃ x, x = wr := ⟨_, rfl⟩
    subst hwz
    by_cases hne : nm = ByteArray.empty
    · have hr : Hid (res = false) := Lib.hid (HBK.out (HFK.out (fun h => h.1 hne)))
      subst hne
      go_wp2_with fail
      go_ret
      exact ⟨by rw [hr.out]; rfl, hfr.out⟩
    obtain ⟨he1, he2⟩ := empty_list hne
    have HNE := Lib.hid hne
    clear hne
    by_cases hsh : shapedB l.length ⟨tb, ts, tms⟩ = true
    case neg =>
      have hr : Hid (res = false) := Lib.hid (HBK.out (HFK.out (fun h => hsh h.2.2.1)))
      rw [show shapedB l.length ⟨tb, ts, tms⟩ = false by simpa using hsh] at HSP
      clear hsh
      go_wp2_with (refine wpList_guarded (by rfl) ?_; intro KK hKK; refine wp_load_in 25 (.tmp 39) rfl b2 (o2 + k * 4 + 1) rfl _ _ HAT.out Tryd.underlying25 rfl (by rw [infoTy]; rfl) ?_; refine hKK _ _ ?_; clear hKK; simp only [Act.put, List.setIfInBounds_toArray, List.set_cons_zero, List.set_cons_succ])
      refine (HSP.out wz (HM.out.fr hfr.out)).mono ?_
      rintro e w3 ⟨rfl, r3⟩
      have R3 := Lib.hid (hfr.out.trans r3)
      clear r3 d0 d2
      go_wp2_with fail
      go_ret
      exact ⟨by rw [hr.out]; rfl, R3.out⟩
    have HSH := Lib.hid hsh
    rw [hsh] at HSP
    clear hsh
    go_wp2_with (refine wpList_guarded (by rfl) ?_; intro KK hKK; refine wp_load_in 25 (.tmp 39) rfl b2 (o2 + k * 4 + 1) rfl _ _ HAT.out Tryd.underlying25 rfl (by rw [infoTy]; rfl) ?_; refine hKK _ _ ?_; clear hKK; simp only [Act.put, List.setIfInBounds_toArray, List.set_cons_zero, List.set_cons_succ])
    refine (HSP.out wz (HM.out.fr hfr.out)).mono ?_
    rintro e w3 ⟨rfl, r3⟩
    have R3 := Lib.hid (hfr.out.trans r3)
    have HAT3 := Lib.hid (At.fr HAT.out r3)
    clear r3 d0 d2 HAT he1 he2
    go_wp2_with (refine wpList_guarded (by rfl) ?_; intro KK hKK; refine wp_load_in 25 (.tmp 48) rfl b2 (o2 + k * 4 + 1) rfl _ _ HAT3.out Tryd.underlying25 rfl (by rw [infoTy]; rfl) ?_; refine hKK _ _ ?_; clear hKK; simp only [Act.put, List.setIfInBounds_toArray, List.set_cons_zero, List.set_cons_succ])
    refine (HIN.out w3 (HM.out.fr R3.out)).mono ?_
    rintro e w4 ⟨rfl, r4⟩
    have R4 := Lib.hid (R3.out.trans r4)
    have d2 := (At.fr HAT3.out r4) 1 _ rfl
    have d2' : w4.cell? ⟨b2, o2 + k * 4 + 2, none⟩ = some (.int .i64 ts) := d2
    clear r4 R3 HAT3
    obtain ⟨ins, hins⟩ : ∃ x, x = insideB ⟨tb, ts, tms⟩ := ⟨_, rfl⟩
    rw [← hins] at HFK HTK ⊢
    clear hins
    by_cases hbad : ins = true ∧ (s : Int) ≤ ts
    · obtain ⟨rfl, hle⟩ := hbad
      have hr : Hid (res = false) := Lib.hid (HBK.out (HFK.out (fun h => by have := h.2.2.2 rfl; omega)))
      go_wp2_with fail
      go_ret
      exact ⟨by rw [hr.out]; rfl, R4.out⟩
    have hgood : ins = false ∨ (ins = true ∧ ¬ (s : Int) ≤ ts) := by
      cases ins
      · exact .inl rfl
      · exact .inr ⟨rfl, fun h => hbad ⟨rfl, h⟩⟩
    have HTS : Hid (ins = true → ts < s) := Lib.hid (fun h => by
      rcases hgood with h2 | h2
      · rw [h2] at h; cases h
      · omega)
    clear hbad
    rcases hgood with rfl | ⟨rfl, hle⟩
    all_goals
      go_upto_region 10 with fail
      clear d2 d2'
      obtain ⟨wy, hwy⟩ : ∃ x, x = w4 := ⟨_, rfl⟩
      subst hwy
      go_loopw [7] (fun y wr => ∃ j : Nat, y = .int .i64 j ∧ j ≤ k ∧ Hid (∀ i (h : i < fs.length), i < j → fs[i].nm ≠ nm) ∧ Hid (Fr no w wr)) (fun y _ => (k - intOf y).toNat)
      case atStart => exact ⟨0, rfl, by omega, Lib.hid (fun i h h0 => by omega), R4⟩
      case round =>
        obtain ⟨j, rfl, hj, hno, hfr2⟩ := hrel
        by_cases hjl : j < k
        case neg =>
          obtain rfl : j = k := by omega
          have HOK := Lib.hid (HNX.out (HTK.out HNE.out (fun i h hij => hno.out i h hij) HSH.out (fun h => HTS.out h)))
          clear hno hjl
          go_wp2_with fail
          go_roundw
          case rel => exact ⟨j + 1, by go_num, by omega, HOK, hfr2⟩
          case measure => first | (simp [intOf]; done) | (simp [intOf]; omega)
        have hjl' : (j : Int) < k := by omega
        have hjn : j < fs.length := by omega
        have hjn' : (j : Int) < fs.length := by omega
        have c0 := hfr2.out.cell D0.out (by simp)
        obtain ⟨b', o', ma', mc', e', hB', -⟩ := HTR.out j hjn
        cases e'
        have c2 := hfr2.out.cell (hB' 0 _ rfl) (by simp)
        rw [Nat.add_zero] at c2
        have HT : Hid (fs[j].nm ≠ nm → ∀ i (h : i < fs.length), i < j + 1 → fs[i].nm ≠ nm) := Lib.hid (fun h1 i h hij => by
          rcases Nat.lt_or_ge i j with h2 | h2
          · exact hno.out i h h2
          · have : i = j := by omega
            subst this; exact h1)
        have HBD : Hid (fs[j].nm = nm → res = false) := Lib.hid (fun e => HBK.out (HFK.out (fun h => h.2.1 j hjn hjl e)))
        clear hB'
        generalize fs[j].nm = bs at *
        by_cases he : bs = nm
        · have hc : (bs.toList == nm.toList) = true := by rw [bytes_eq, decide_eq_true he]
          have hr : Hid (res = false) := Lib.hid (HBD.out he)
          clear he hno
          go_wp2_with fail
          go_quiet (fail)
          go_wp2_with fail
          go_ret
          exact ⟨by rw [hr.out]; rfl, hfr2.out.drewN _⟩
        · have hc : (bs.toList == nm.toList) = false := by rw [bytes_eq, decide_eq_false he]
          have HT2 := Lib.hid (HT.out he)
          clear he hno
          go_wp2_with fail
          go_quiet (fail)
          go_wp2_with fail
          go_roundw
          case rel => exact ⟨j + 1, by go_num, by omega, HT2, Lib.hid (hfr2.out.drewN _)⟩
          case measure => first | (simp [intOf]; done) | (simp [intOf]; omega)

end Go.Proofs.YtjpkmaacalelcaaDoor

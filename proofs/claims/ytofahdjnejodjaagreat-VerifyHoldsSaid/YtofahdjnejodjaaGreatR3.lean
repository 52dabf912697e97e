/- The document's Masks (law11). -/
import Derived.Test.YtofahdjnejodjaaGreatR2
set_option linter.unusedSimpArgs false
set_option linter.unusedVariables false
set_option linter.unusedSectionVars false
set_option linter.unnecessarySimpa false
namespace Go.Proofs.YtofahdjnejodjaaGreat
open Go.RowKit Go.Flow Go.Sure

attribute [local go_sem] Program.isFuncB Program.isSliceB

variable {w w' w'' w0 : World}

/-! ### the plain part: a mask is summed up register by register -/
structure Part (p : Nat) (g : Nat → Nat → List Nat) (r m j : Nat) : Prop where
  lt : m < 2 ^ r
  iff : ∀ s, s < r → (m.testBit s = false ↔ p ≤ s ∧ Flow.Reach (g s) j)
theorem Part.zero {p j : Nat} {g : Nat → Nat → List Nat} : Part p g 0 0 j := ⟨by simp, fun s h => by omega⟩
theorem Part.add {p r m j : Nat} {g : Nat → Nat → List Nat} (h : Part p g r m j) (hb : ¬ (p ≤ r ∧ Flow.Reach (g r) j)) : Part p g (r + 1) (m + 2 ^ r) j := by
  refine ⟨by have := h.lt; rw [Nat.pow_succ]; omega, fun s hs => ?_⟩
  rw [Nat.add_comm]
  by_cases e : s = r
  · subst e
    rw [Nat.testBit_two_pow_add_eq, Nat.testBit_lt_two_pow h.lt]
    simpa using hb
  · rw [Nat.testBit_two_pow_add_gt (by omega)]
    exact h.iff s (by omega)
theorem Part.keep {p r m j : Nat} {g : Nat → Nat → List Nat} (h : Part p g r m j) (hb : p ≤ r ∧ Flow.Reach (g r) j) : Part p g (r + 1) m j := by
  refine ⟨by have := h.lt; rw [Nat.pow_succ]; omega, fun s hs => ?_⟩
  by_cases e : s = r
  · subst e
    rw [Nat.testBit_lt_two_pow h.lt]
    simpa using hb
  · exact h.iff s (by omega)
structure MRow (n p : Nat) (g : Nat → Nat → List Nat) (r i : Nat) (ms : List Nat) : Prop where
  len : ms.length = n
  part : ∀ j m, ms[j]? = some m → Part p g (if j < i then r + 1 else r) m j
theorem MRow.start (n p : Nat) (g : Nat → Nat → List Nat) : MRow n p g 0 0 (List.replicate n 0) := by
  refine ⟨by simp, fun j m h => ?_⟩
  rw [List.getElem?_replicate] at h
  split at h <;> simp at h
  subst h
  rw [if_neg (by omega)]
  exact .zero
theorem MRow.at {n p r i m : Nat} {g : Nat → Nat → List Nat} {ms : List Nat} (h : MRow n p g r i ms) (hm : ms[i]? = some m) : Part p g r m i := by
  have := h.part i m hm
  rwa [if_neg (by omega)] at this
theorem MRow.keep {n p r i m : Nat} {g : Nat → Nat → List Nat} {ms : List Nat} (h : MRow n p g r i ms) (hm : ms[i]? = some m) (hb : p ≤ r ∧ Flow.Reach (g r) i) : MRow n p g r (i + 1) ms := by
  refine ⟨h.len, fun j x hx => ?_⟩
  by_cases e : j = i
  · subst e
    rw [hm] at hx
    cases hx
    rw [if_pos (by omega)]
    exact (h.at hm).keep hb
  · have := h.part j x hx
    by_cases hj : j < i
    · rw [if_pos hj] at this; rwa [if_pos (by omega)]
    · rw [if_neg hj] at this; rwa [if_neg (by omega)]
theorem MRow.add {n p r i m : Nat} {g : Nat → Nat → List Nat} {ms : List Nat} (h : MRow n p g r i ms) (hm : ms[i]? = some m) (hb : ¬ (p ≤ r ∧ Flow.Reach (g r) i)) : MRow n p g r (i + 1) (ms.set i (m + 2 ^ r)) := by
  have hi := (List.getElem?_eq_some_iff.1 hm).1
  refine ⟨by rw [List.length_set]; exact h.len, fun j x hx => ?_⟩
  rw [List.getElem?_set] at hx
  by_cases e : i = j
  · subst e
    rw [if_pos rfl, if_pos hi] at hx
    cases hx
    rw [if_pos (by omega)]
    exact (h.at hm).add hb
  · rw [if_neg e] at hx
    have := h.part j x hx
    by_cases hj : j < i
    · rw [if_pos hj] at this; rwa [if_pos (by omega)]
    · rw [if_neg hj] at this; rwa [if_neg (by omega)]
theorem MRow.next {n p r : Nat} {g : Nat → Nat → List Nat} {ms : List Nat} (h : MRow n p g r n ms) : MRow n p g (r + 1) 0 ms :=
  ⟨h.len, fun j m hm => by
    have := h.part j m hm
    rw [if_pos (by have := (List.getElem?_eq_some_iff.1 hm).1; rw [h.len] at this; exact this)] at this
    rwa [if_neg (by omega)]⟩
theorem MRow.tells {n p : Nat} {nx : Nat → List Nat} {wr : Nat → Int} {ms : List Nat} (h : MRow n p (gr nx wr) 64 0 ms) : Tells n p nx wr ms := by
  have hp : ∀ j m, ms[j]? = some m → Part p (gr nx wr) 64 m j := fun j m hm => by have := h.part j m hm; rwa [if_neg (by omega)] at this
  refine ⟨h.len, fun m hm => ?_, fun r i hr hi => ?_⟩
  · obtain ⟨j, hj, rfl⟩ := List.getElem_of_mem hm
    have := (hp j _ (List.getElem?_eq_getElem hj)).lt
    have e : (2 : Nat) ^ 64 = 18446744073709551616 := by decide
    omega
  · have hi' : i < ms.length := by rw [h.len]; exact hi
    have := (hp i _ (List.getElem?_eq_getElem hi')).iff r hr
    unfold un
    rw [List.getD_eq_getElem?_getD, List.getElem?_eq_getElem hi']
    exact this
theorem MRow.lt {n p r i m j : Nat} {g : Nat → Nat → List Nat} {ms : List Nat} (h : MRow n p g r i ms) (hm : ms[j]? = some m) (hr : r < 64) (hj : i ≤ j) : m < 2 ^ r := by
  have := (h.part j m hm).lt
  rwa [if_neg (by omega)] at this
theorem add_u64 (m r : Nat) (h : m < 2 ^ r) (hr : r < 64) : IntKind.u64.wrap ((m : Int) + IntKind.u64.wrap ((2 : Int) ^ r)) = ((m + 2 ^ r : Nat) : Int) := by
  have h2 : (2 : Nat) ^ r ≤ 2 ^ 63 := Nat.pow_le_pow_right (by omega) (by omega)
  have e : (2 : Nat) ^ 63 = 9223372036854775808 := by decide
  rw [pow_wrap r hr]
  generalize (2 : Nat) ^ r = z at *
  rw [IntKind.wrap_u64]
  omega
theorem infoU64R : (Tryz.prog.info? 30).map (fun i => (i.zero, i.size, i.bytes)) = some (some (.int .u64 0), 1, 8) := by kernel_rfl
theorem u64L_rep (n : Nat) : u64L (List.replicate n 0) = List.replicate n (.int .u64 0) := by simp [u64L]
theorem u64L_set (ms : List Nat) (i m : Nat) : ((u64L ms).toArray.setIfInBounds i (.int .u64 (m : Nat))) = (u64L (ms.set i m)).toArray := by simp [u64L, List.map_set]

set_option maxRecDepth 100000 in
set_option maxHeartbeats 8000000 in
theorem refmasks_ok (w : World) (sa : Option Addr) (c : Nat) (is : List Ix) (p : Int) (hin : CodeIn w sa is) (hlen : is.length ≤ 1000) (hargs : ∀ i ∈ is, i.l.length ≤ 1000) :
    Calls Tryz.prog 13 #[.slice sa is.length c, .int .i64 p] w (MasksPost w (masksCk p is) is.length p.toNat (nx (fis is)) (wrN is)) := by
  unfold masksCk
  by_cases hp0 : p < 0
  · go_enter Tryz.func13, Tryz.ntmps13
    rw [if_pos (.inl hp0)]
    go_wp2_with fail
    go_ret2
    exact MasksPost.bad (by omega) (Fr.refl _ _)
  by_cases hp8 : 8 < p
  · go_enter Tryz.func13, Tryz.ntmps13
    rw [if_pos (.inr hp8)]
    go_wp2_with fail
    go_ret2
    exact MasksPost.bad (by omega) (Fr.refl _ _)
  rw [if_neg (fun h => h.elim hp0 hp8)]
  obtain ⟨pn, rfl⟩ : ∃ pn : Nat, p = pn := ⟨p.toNat, by omega⟩
  rw [Int.toNat_natCast]
  have hpn : pn ≤ 8 := by omega
  have hpn' : ¬ ((8 : Int) < pn) := hp8
  have hpn0 : ¬ ((pn : Int) < 0) := hp0
  clear hp0 hp8
  have HNX := Lib.hid (rnext_ok w sa c is hin hlen hargs)
  have HIN := Lib.hid hin
  have HFL : Hid (flowCk is = 0 → Flows (fis is)) := Lib.hid flowCk_flows
  generalize flowCk is = ck at *
  clear hin hargs
  go_enter Tryz.func13, Tryz.ntmps13
  go_wp2_with fail
  refine HNX.out.mono ?_
  rintro e w1 ⟨u, rfl, hbad, hgood, r1⟩
  have R1 := Lib.hid r1
  have HGOOD := Lib.hid hgood
  have HBAD := Lib.hid hbad
  clear r1 hgood hbad HNX
  by_cases hj : ck = 0
  case neg =>
    have e1 : (ck != 0) = true := by simpa using hj
    have HJ := Lib.hid hj
    rw [HBAD.out hj]
    clear hj HGOOD HBAD
    go_wp2_with fail
    go_ret2
    exact MasksPost.bad HJ.out R1.out
  have HN0 := (HGOOD.out hj).nx
  have HF := Lib.hid (HFL.out hj)
  subst hj
  clear HBAD HGOOD HFL
  have hsh : ∃ a c', u = .slice a is.length c' := by
    obtain ⟨vs, h1, h2⟩ := HN0
    obtain ⟨a, c', rfl⟩ := h1.shape
    exact ⟨a, c', by rw [nxs_len]⟩
  obtain ⟨na, nc, rfl⟩ := hsh
  have HN1 := Lib.hid HN0
  have hpos : 0 < is.length := by have := HF.out.pos; rw [fis_len] at this; exact this
  have HPOS := Lib.hid hpos
  have HIN1 := Lib.hid (HIN.out.fr R1.out)
  clear HN0 HIN
  go_upto_region 7 with ((refine wpList_make_any rfl (.tmp 27) (.tmp 27) 26 rfl w1.heap.size 30 (.int .u64 0) 8 Tryz.underlying26 infoU64R rfl .i64 .i64 is.length is.length is.length rfl rfl rfl rfl (by omega) (by unfold maxLen; omega) (Nat.le_refl _) ?_); intro w3 ho3 hg3)
  have HG3 : Hid (w3.heap[w1.heap.size]? = some (.cells (u64L (List.replicate is.length 0)).toArray 30 (0, 0))) := Lib.hid (by rw [u64L_rep]; exact owns_full ho3)
  have q3 := (Fr.refl no w1).grown hg3 (by intro k hk; cases hk)
  obtain ⟨og, hog⟩ : ∃ g, g = w1.heap.size := ⟨_, rfl⟩
  have HOG := Lib.hid hog
  have HOG2 : Hid (w.heap.size ≤ og) := Lib.hid (by rw [hog]; exact R1.out.size)
  rw [← hog] at HG3 ⊢
  have R3 := Lib.hid q3
  have HM0 := Lib.hid (MRow.start is.length pn (gr (nx (fis is)) (wrN is)))
  clear ho3 hg3 q3 hog hpos
  go_wp2_with fail
  go_loopw [9] (fun x wr => ∃ (r : Nat) (ms : List Nat), x = .int .i64 r ∧ r ≤ 64 ∧ Hid (MRow is.length pn (gr (nx (fis is)) (wrN is)) r 0 ms) ∧ Hid (wr.heap[og]? = some (.cells (u64L ms).toArray 30 (0, 0))) ∧ Hid (Fr no w1 wr)) (fun x _ => (64 - intOf x).toNat)
  case atStart => exact ⟨0, _, rfl, by omega, HM0, HG3, R3⟩
  case round =>
    clear HM0 HG3 R3
    obtain ⟨r, ms, rfl, hr, HM, HG, HR⟩ := hrel
    by_cases hr64 : r = 64
    · subst hr64
      have HT := Lib.hid HM.out.tells
      have HOW : Hid (wr.ownsRow w.heap.size 30 1 (.slice (some ⟨og, 0, none⟩) is.length is.length) is.length (u64L ms)) := Lib.hid (full_owns HG.out (by rw [u64L_len]; exact HT.out.len) HOG2.out (by unfold maxLen; omega))
      have R9 := Lib.hid (R1.out.trans HR.out)
      clear HM HG HR
      go_wp2_with fail
      go_ret2
      exact ⟨_, rfl, fun h => absurd rfl h, fun _ => ⟨ms, HT.out, HOW.out⟩, R9.out⟩
    · have hr' : r < 64 := by omega
      have hr'' : (r : Int) < 64 := by omega
      have HW := Lib.hid (without_ok wr sa na c nc is r (HIN1.out.fr HR.out) (HN1.out.fr HR.out) hlen HF.out HPOS.out)
      obtain ⟨wo, hwo⟩ : ∃ x, x = wr := ⟨_, rfl⟩
      subst hwo
      go_wp2_with fail
      refine HW.out.mono ?_
      rintro e w5 ⟨v, ob, rfl, hol, hrd, hnew, hway, r5⟩
      obtain ⟨va, vc, rfl⟩ := hrd.shape
      have HOL := Lib.hid hol
      have HRD := Lib.hid hrd
      have HWAY := Lib.hid hway
      have HG5 := Lib.hid (r5.heap HG.out (by simp))
      have R5 := Lib.hid (HR.out.trans r5)
      have HVB : Hid (∀ b, (Value.slice va is.length vc).ownBlock = some b → b ≠ og) := Lib.hid (fun b hb => by
        have h1 := hnew b hb
        have h2 := (Array.getElem?_eq_some_iff.1 HG.out).1
        omega)
      clear hol hrd hnew hway r5 HG HR HW hr64
      go_wp2_with fail
      go_loopw [11] (fun x wr => ∃ (i : Nat) (ms : List Nat), x = .int .i64 i ∧ i ≤ is.length ∧ Hid (MRow is.length pn (gr (nx (fis is)) (wrN is)) r i ms) ∧ Hid (wr.heap[og]? = some (.cells (u64L ms).toArray 30 (0, 0))) ∧ Hid (Fr (only [og]) w5 wr)) (fun x _ => (is.length - intOf x).toNat)
      case atStart => exact ⟨0, ms, rfl, by omega, HM, HG5, Lib.hid (Fr.refl _ _)⟩
      case round =>
        clear HM HG5
        obtain ⟨i, ms, rfl, hi, HM, HG, HR⟩ := hrel
        have F2 := Lib.hid (R5.out.trans' HR.out (fun b hb _ => by have := HOG.out; simp at hb; omega))
        by_cases hin : i = is.length
        · have HMN : Hid (MRow is.length pn (gr (nx (fis is)) (wrN is)) (r + 1) 0 ms) := Lib.hid (by rw [hin] at HM; exact HM.out.next)
          subst hin
          clear HM HR
          go_wp2_with fail
          go_roundw
          case rel => exact ⟨r + 1, ms, by go_num, by omega, HMN, HG, F2⟩
          case measure => first | (simp [intOf]; done) | (simp [intOf]; omega)
        · have his : i < is.length := by omega
          have his' : (i : Int) < is.length := by omega
          have him : i < ms.length := by rw [HM.out.len]; exact his
          have hio : i < ob.length := by rw [HOL.out]; exact his
          have HMI : Hid (ms[i]? = some ms[i]) := Lib.hid (List.getElem?_eq_getElem him)
          have cm : wr.cell? ⟨og, i, none⟩ = some (.int .u64 (ms[i] : Nat)) := cell_of_heap HG.out (by simp [u64L, him])
          have fm : wr.frozen? ⟨og, i, none⟩ = false := frozen_of_heap HG.out
          obtain ⟨vb, vo, rfl, cv⟩ := (HRD.out.fr HR.out (fun b hb => by have := HVB.out b hb; simpa using this)).at1 (k := i) (u := .bool ob[i]) (by simp [bools, hio])
          have HOI : Hid (ob[i] = true ↔ Flow.Reach (gr (nx (fis is)) (wrN is) r) i) := Lib.hid (by rw [← HWAY.out i, List.getElem?_eq_getElem hio]; simp)
          have eadd := add_u64 ms[i] r (HM.out.lt HMI.out hr' (Nat.le_refl _)) hr'
          have HADD : Hid (¬ (pn ≤ r ∧ ob[i] = true) → MRow is.length pn (gr (nx (fis is)) (wrN is)) r (i + 1) (ms.set i (ms[i] + 2 ^ r))) := Lib.hid (fun h => HM.out.add HMI.out (fun hb => h ⟨hb.1, HOI.out.2 hb.2⟩))
          have HKEEP : Hid ((pn ≤ r ∧ ob[i] = true) → MRow is.length pn (gr (nx (fis is)) (wrN is)) r (i + 1) ms) := Lib.hid (fun h => HM.out.keep HMI.out ⟨h.1, HOI.out.1 h.2⟩)
          have HGN : Hid (∀ w' : World, w'.heap[og]? = some (.cells (u64L ms).toArray 30 (0, 0)) → (w'.setCell ⟨og, i, none⟩ (.int .u64 ((ms[i] + 2 ^ r : Nat) : Int))).heap[og]? = some (.cells (u64L (ms.set i (ms[i] + 2 ^ r))).toArray 30 (0, 0))) := Lib.hid (fun w' h => by rw [heap_setCell h, u64L_set])
          clear HMI HOI HM
          generalize hmn : ms[i] + 2 ^ r = mn at *
          clear hmn
          generalize ms[i] = m at *
          generalize ob[i] = oi at *
          clear him hio
          by_cases hpr : pn ≤ r
          · have hpr' : ¬ ((r : Int) < pn) := by omega
            cases oi
            · have HN := Lib.hid (HADD.out (by simp))
              clear HADD HKEEP hpr
              go_upto_region 15 with fail
              refine Lex.region [10] [10, 1] (by kernel_rfl) (by kernel_rfl) ?_
              refine Lex.opens (fun w' => w'.cell? ⟨og, i, none⟩ = some (.int .u64 (m : Nat))) (cm) ?_
              repeat (first
                | (refine Lex.skips (by rfl) ?_; (try simp only [Act.put, List.setIfInBounds_toArray, List.set_cons_zero, List.set_cons_succ]))
                | (refine Lex.quiet (v := ?_) (by rfl) (by rfl) ?_ ?_; rotate_left; (focus (intro w' hS'; go_simp; try rfl)); (try simp only [Act.put, List.setIfInBounds_toArray, List.set_cons_zero, List.set_cons_succ])))
              refine Lex.done ?_
              refine Lex.opens (fun _ => True) (trivial) ?_
              refine Lex.loud (by rfl) (by rfl) ?_
              intro K' hK'
              go_simp
              refine hK' _ _ (trivial) ?_
              clear hK'
              try simp only [Act.put, List.setIfInBounds_toArray, List.set_cons_zero, List.set_cons_succ]
              refine Lex.done ?_
              refine Lex.ends ?_
              have hd : (wr.drew).heap[og]? = some (.cells (u64L ms).toArray 30 (0, 0)) := ((Fr.refl no wr).drew).heap HG.out (by simp)
              have HG9 := Lib.hid (HGN.out _ hd)
              have F9 : Hid (Fr (only [og]) w5 (wr.drew.setCell ⟨og, i, none⟩ (.int .u64 (mn : Nat)))) := Lib.hid (HR.out.drew.setCell _ _ (.inl (by simp)))
              go_wp2_with fail
              go_roundw
              case rel => exact ⟨i + 1, _, by go_num, by omega, HN, HG9, F9⟩
              case measure => first | (simp [intOf]; done) | (simp [intOf]; omega)
            · have HN := Lib.hid (HKEEP.out ⟨hpr, rfl⟩)
              clear HADD HKEEP hpr
              go_wp2_with fail
              go_roundw
              case rel => exact ⟨i + 1, ms, by go_num, by omega, HN, HG, HR⟩
              case measure => first | (simp [intOf]; done) | (simp [intOf]; omega)
          · have hpr' : (r : Int) < pn := by omega
            have HN := Lib.hid (HADD.out (by simp [hpr]))
            clear HADD HKEEP hpr
            go_upto_region 15 with fail
            refine Lex.region [10] [10, 1] (by kernel_rfl) (by kernel_rfl) ?_
            refine Lex.opens (fun w' => w'.cell? ⟨og, i, none⟩ = some (.int .u64 (m : Nat))) (cm) ?_
            repeat (first
              | (refine Lex.skips (by rfl) ?_; (try simp only [Act.put, List.setIfInBounds_toArray, List.set_cons_zero, List.set_cons_succ]))
              | (refine Lex.quiet (v := ?_) (by rfl) (by rfl) ?_ ?_; rotate_left; (focus (intro w' hS'; go_simp; try rfl)); (try simp only [Act.put, List.setIfInBounds_toArray, List.set_cons_zero, List.set_cons_succ])))
            refine Lex.done ?_
            refine Lex.opens (fun _ => True) (trivial) ?_
            refine Lex.loud (by rfl) (by rfl) ?_
            intro K' hK'
            go_simp
            refine hK' _ _ (trivial) ?_
            clear hK'
            try simp only [Act.put, List.setIfInBounds_toArray, List.set_cons_zero, List.set_cons_succ]
            refine Lex.done ?_
            refine Lex.ends ?_
            have hd : (wr.drew).heap[og]? = some (.cells (u64L ms).toArray 30 (0, 0)) := ((Fr.refl no wr).drew).heap HG.out (by simp)
            have HG9 := Lib.hid (HGN.out _ hd)
            have F9 : Hid (Fr (only [og]) w5 (wr.drew.setCell ⟨og, i, none⟩ (.int .u64 (mn : Nat)))) := Lib.hid (HR.out.drew.setCell _ _ (.inl (by simp)))
            go_wp2_with fail
            go_roundw
            case rel => exact ⟨i + 1, _, by go_num, by omega, HN, HG9, F9⟩
            case measure => first | (simp [intOf]; done) | (simp [intOf]; omega)

end Go.Proofs.YtofahdjnejodjaaGreat

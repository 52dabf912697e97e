/- The document's leader, block (law10). -/
import Derived.Test.YtgofiaodncemiaaGreatZd
set_option linter.unusedSimpArgs false
set_option linter.unusedVariables false
set_option linter.unusedSectionVars false
set_option linter.unnecessarySimpa false
namespace Go.Proofs.YtgofiaodncemiaaGreat
open Go.RowKit Go.Flow

attribute [local go_sem] Program.isFuncB Program.isSliceB

variable {w w' w'' w0 : World}

theorem leadB_zero (l : List Fi) : leadB l 0 = true := heads_zero l
theorem leadB_succ (is : List Ix) (m : Nat) (hm : m < is.length) : leadB (fis is) (m + 1) = (decide (0 ≤ tgtI is[m]) || !(fiOf is[m]).fl || (fis is).any (fun x => decide (x.tg = (plc (fis is) (m + 1) : Int)))) := by
  unfold leadB
  rw [show m + 1 - 1 = m from rfl, fis_get is m hm]
  have : (m + 1 == 0) = false := by simp
  rw [this]
  rfl

set_option maxRecDepth 100000 in
set_option maxHeartbeats 8000000 in
theorem leader_ok (w : World) (sa pa : Option Addr) (c pc : Nat) (is : List Ix) (i : Nat) (hin : CodeIn w sa is) (hp : Reads w (.slice pa is.length pc) 1 is.length (ints (placesOf is))) (hlen : is.length ≤ 1000) (hi : i < is.length) :
    Calls Tryz.prog 39 #[.slice sa is.length c, .slice pa is.length pc, .int .i64 i] w fun e w' => e = .returned (.bool (leadB (fis is) i)) ∧ Fr no w w' := by
  have HIN := Lib.hid hin
  have HP := Lib.hid hp
  by_cases h0 : i = 0
  · subst h0
    have HL := Lib.hid (leadB_zero (fis is))
    rw [HL.out]
    clear hin hp HIN HP HL
    go_enter Tryz.func39, Tryz.ntmps39
    go_wp2_with fail
    go_ret
    exact ⟨rfl, Fr.refl _ _⟩
  obtain ⟨m, rfl⟩ : ∃ m, i = m + 1 := ⟨i - 1, by omega⟩
  have hml : m < is.length := by omega
  have HLB := Lib.hid (leadB_succ is m hml)
  obtain ⟨b, of, ua, uc, rfl, hii⟩ := code_at hin m hml
  obtain ⟨c0, c1, c2, c3, c4, c5⟩ := hii.six
  have HII := Lib.hid hii
  have HT : Hid (∀ w1 : World, Calls Tryz.prog 33 #[insV is[m].o is[m].A is[m].B is[m].C is[m].N (.slice ua is[m].l.length uc)] w1 fun e w' => e = .returned (.int .i64 (tgtI is[m])) ∧ Fr no w1 w') := Lib.hid (fun w1 => reftarget_ok w1 is[m].o is[m].A is[m].B is[m].C is[m].N (.slice ua is[m].l.length uc))
  have HFA : Hid (∀ w1 : World, Calls Tryz.prog 35 #[insV is[m].o is[m].A is[m].B is[m].C is[m].N (.slice ua is[m].l.length uc)] w1 fun e w' => e = .returned (.bool (fiOf is[m]).fl) ∧ Fr no w1 w') := Lib.hid (fun w1 => reffalls_ok w1 is[m].o is[m].A is[m].B is[m].C is[m].N (.slice ua is[m].l.length uc))
  have e0 : (((m + 1 : Nat) : Int) == 0) = false := by simp; omega
  have e1 : ((m + 1 : Nat) : Int) - 1 = m := by omega
  have e0' : ((m : Int) + 1 == 0) = false := by simp; omega
  have e1' : (m : Int) + 1 - 1 = m := by omega
  have hml' : (m : Int) < is.length := by omega
  have HM1 := Lib.hid hi
  generalize tgtI is[m] = t at *
  generalize (fiOf is[m]).fl = fl at *
  generalize is[m] = ix at *
  clear hii hin hp h0
  obtain ⟨io, iA, iB, iC, iN, il⟩ := ix
  dsimp only at c0 c1 c2 c3 c4 c5 HT HFA
  unfold insV at HT HFA
  generalize hlb : leadB (fis is) (m + 1) = lb at *
  clear hlb
  go_enter Tryz.func39, Tryz.ntmps39
  go_wp2_with fail
  refine (HT.out _).mono ?_
  rintro e w2 ⟨rfl, r2⟩
  have R2 := Lib.hid r2
  obtain ⟨d0, d1, d2, d3, d4, d5⟩ := (HII.out.fr r2).six
  dsimp only at d0 d1 d2 d3 d4 d5
  clear r2 c0 c1 c2 c3 c4 c5
  by_cases ht : 0 ≤ t
  · have HR : Hid (lb = true) := Lib.hid (by rw [HLB.out, decide_eq_true ht]; rfl)
    go_wp2_with fail
    go_ret
    exact ⟨by rw [HR.out]; rfl, R2.out⟩
  have HLB2 : Hid (lb = (!fl || (fis is).any (fun x => decide (x.tg = (plc (fis is) (m + 1) : Int))))) := Lib.hid (by rw [HLB.out, decide_eq_false ht]; rfl)
  clear HLB
  cases fl
  · have HR : Hid (lb = true) := Lib.hid (by rw [HLB2.out]; rfl)
    go_wp2_with fail
    refine (HFA.out _).mono ?_
    rintro e w3 ⟨rfl, r3⟩
    have R3 := Lib.hid (R2.out.trans r3)
    clear r3
    go_wp2_with fail
    go_ret
    exact ⟨by rw [HR.out]; rfl, R3.out⟩
  go_wp2_with fail
  refine (HFA.out _).mono ?_
  rintro e w3 ⟨rfl, r3⟩
  have R3 := Lib.hid (R2.out.trans r3)
  clear r3 R2 d0 d1 d2 d3 d4 d5 HFA HT HII
  have HPI := Lib.hid (places_at is (m + 1) HM1.out)
  have HLB3 : Hid (lb = (fis is).any (fun x => decide (x.tg = (plc (fis is) (m + 1) : Int)))) := Lib.hid (by rw [HLB2.out]; rfl)
  clear HLB2
  go_wp2_with fail
  go_loopw [7] (fun x wr => ∃ k : Nat, k ≤ is.length ∧ x = .int .i64 k ∧ Hid (∀ j (h : j < is.length), j < k → tgtI is[j] ≠ (plc (fis is) (m + 1) : Int)) ∧ Hid (Fr no w wr)) (fun x _ => (is.length - intOf x).toNat)
  case atStart => exact ⟨0, by omega, rfl, Lib.hid (fun j _ h => by omega), R3⟩
  case round =>
    obtain ⟨k, hk, rfl, hpre, hfr⟩ := hrel
    by_cases hks : k < is.length
    · have hks' : (k : Int) < is.length := by omega
      obtain ⟨b1, o1, ua, uc, e1, h1⟩ := code_at (HIN.out.fr hfr.out) k hks
      cases e1
      obtain ⟨pb, po, rfl, cp⟩ := (HP.out.fr hfr.out (by simp)).at1 HPI.out
      have HT : Hid (∀ w1 : World, Calls Tryz.prog 33 #[insV is[k].o is[k].A is[k].B is[k].C is[k].N (.slice ua is[k].l.length uc)] w1 fun e w' => e = .returned (.int .i64 (tgtI is[k])) ∧ Fr no w1 w') := Lib.hid (fun w1 => reftarget_ok w1 is[k].o is[k].A is[k].B is[k].C is[k].N (.slice ua is[k].l.length uc))
      have HY : Hid (tgtI is[k] = (plc (fis is) (m + 1) : Int) → lb = true) := Lib.hid (fun h => by
        rw [HLB3.out]
        exact List.any_eq_true.2 ⟨fiOf is[k], by unfold fis; exact List.mem_map_of_mem (List.getElem_mem hks), decide_eq_true h⟩)
      have HN : Hid (tgtI is[k] ≠ (plc (fis is) (m + 1) : Int) → ∀ j (h : j < is.length), j < k + 1 → tgtI is[j] ≠ (plc (fis is) (m + 1) : Int)) := Lib.hid (fun hne j hj hjk => by
        by_cases e : j = k
        · subst e; exact hne
        · exact hpre.out j hj (by omega))
      have A1 := Lib.hid h1.at_
      have A2 := Lib.hid ((h1.at_).fr ((Fr.refl no wr).drew))
      generalize tgtI is[k] = t2 at *
      generalize hpx : plc (fis is) (m + 1) = px at *
      generalize is[k] = ix at *
      clear h1 hpre hpx
      have hm1 : (m : Int) + 1 < is.length := by have := HM1.out; omega
      have hm0 : 0 ≤ (m : Int) + 1 := by omega
      obtain ⟨a1, a2, a3, a4, a5, a6⟩ := ix
      unfold Ix.cells at A1 A2
      unfold insV at HT
      dsimp only at A1 A2 HT
      go_wp2_with fail
      refine Lex.region [4] [10] (by kernel_rfl) (by kernel_rfl) ?_
      refine Lex.opens (fun w' => At w' b (of + k * 6) [.int .i64 a1, .int .i64 a2, .int .i64 a3, .int .i64 a4, .int .i64 a5, .slice ua a6.length uc] ∧ w'.cell? ⟨pb, po + (m + 1), none⟩ = some (.int .i64 (px : Nat))) (⟨A2.out, cp⟩) ?_
      repeat (first
        | (refine Lex.skips (by rfl) ?_; (try simp only [Act.put, List.setIfInBounds_toArray, List.set_cons_zero, List.set_cons_succ]))
        | (refine Lex.into (by rfl) (by rfl) _ _ rfl _ _ rfl _ _ (fun w' h => h.1) Tryz.underlying46 rfl (by rw [Tryz.infoIns]; rfl) ?_; (try simp only [Act.put, List.setIfInBounds_toArray, List.set_cons_zero, List.set_cons_succ]))
        | (refine Lex.quiet (v := ?_) (by rfl) (by rfl) ?_ ?_; rotate_left; (focus (intro w' hS'; go_simp; try rfl)); (try simp only [Act.put, List.setIfInBounds_toArray, List.set_cons_zero, List.set_cons_succ])))
      refine Lex.loud (by rfl) (by rfl) ?_
      intro K' hK'
      go_simp
      refine (HT.out _).mono ?_
      rintro e w5 ⟨rfl, r5⟩
      have A3 := Lib.hid (A2.out.fr r5)
      have cp5 : w5.cell? ⟨pb, po + (m + 1), none⟩ = some (.int .i64 (px : Nat)) := r5.cell (p := ⟨pb, po + (m + 1), none⟩) cp (by simp)
      have F5 := Lib.hid (hfr.out.drew.trans r5)
      clear r5
      refine hK' _ _ (⟨A3.out, cp5⟩) ?_
      clear hK'
      try simp only [Act.put, List.setIfInBounds_toArray, List.set_cons_zero, List.set_cons_succ]
      by_cases he : t2 = (px : Int)
      · have q2 : (t2 == (px : Int)) = true := by simpa using he
        have HR := Lib.hid (HY.out he)
        clear he
        repeat (first
          | (refine Lex.skips (by rfl) ?_; (try simp only [Act.put, List.setIfInBounds_toArray, List.set_cons_zero, List.set_cons_succ]))
          | (refine Lex.into (by rfl) (by rfl) _ _ rfl _ _ rfl _ _ (fun w' h => h.1) Tryz.underlying46 rfl (by rw [Tryz.infoIns]; rfl) ?_; (try simp only [Act.put, List.setIfInBounds_toArray, List.set_cons_zero, List.set_cons_succ]))
          | (refine Lex.quiet (v := ?_) (by rfl) (by rfl) ?_ ?_; rotate_left; (focus (intro w' hS'; go_simp; try rfl)); (try simp only [Act.put, List.setIfInBounds_toArray, List.set_cons_zero, List.set_cons_succ])))
        refine Lex.done ?_
        refine Lex.ends ?_
        clear cp cp5
        go_wp2_with fail
        go_ret
        exact ⟨by rw [HR.out]; rfl, F5.out⟩
      · have q2 : (t2 == (px : Int)) = false := by simpa using he
        have HN2 := Lib.hid (HN.out he)
        clear he
        repeat (first
          | (refine Lex.skips (by rfl) ?_; (try simp only [Act.put, List.setIfInBounds_toArray, List.set_cons_zero, List.set_cons_succ]))
          | (refine Lex.into (by rfl) (by rfl) _ _ rfl _ _ rfl _ _ (fun w' h => h.1) Tryz.underlying46 rfl (by rw [Tryz.infoIns]; rfl) ?_; (try simp only [Act.put, List.setIfInBounds_toArray, List.set_cons_zero, List.set_cons_succ]))
          | (refine Lex.quiet (v := ?_) (by rfl) (by rfl) ?_ ?_; rotate_left; (focus (intro w' hS'; go_simp; try rfl)); (try simp only [Act.put, List.setIfInBounds_toArray, List.set_cons_zero, List.set_cons_succ])))
        refine Lex.done ?_
        refine Lex.ends ?_
        clear cp cp5
        go_wp2_with fail
        go_roundw
        case rel => exact ⟨k + 1, by omega, by go_num, HN2, F5⟩
        case measure => first | (simp [intOf]; done) | (simp [intOf]; omega)
    · obtain rfl : k = is.length := by omega
      have HR : Hid (lb = false) := Lib.hid (by
        rw [HLB3.out]
        cases h : (fis is).any (fun x => decide (x.tg = (plc (fis is) (m + 1) : Int))) with
        | false => rfl
        | true =>
          exfalso
          obtain ⟨x, hx, h1⟩ := List.any_eq_true.1 h
          obtain ⟨j, hj, rfl⟩ := List.getElem_of_mem hx
          rw [fis_len] at hj
          rw [fis_at is j hj] at h1
          exact hpre.out j hj hj (of_decide_eq_true h1))
      go_wp2_with fail
      go_ret
      exact ⟨by rw [HR.out]; rfl, hfr.out⟩

set_option maxRecDepth 100000 in
set_option maxHeartbeats 4000000 in
theorem block_ok (w : World) (sa : Option Addr) (c : Nat) (bs : List Bk) (vs : List Value) (x : Nat) (hv : vs.length = bs.length) (hr : Reads w (.slice sa bs.length c) 3 bs.length (bCells bs vs)) (hl : bs.length ≤ 1000)
    (hs : (bs.map Bk.fr).Pairwise (· < ·)) (hx : x ∈ bs.map Bk.fr) :
    Calls Tryz.prog 40 #[.slice sa bs.length c, .int .i64 x] w fun e w' => e = .returned (.int .i64 (idx (bs.map Bk.fr) x : Nat)) ∧ w = w' := by
  have HCL : Hid (∀ k (hk : k < bs.length), ∃ b o, sa = some ⟨b, o, none⟩ ∧ w.cell? ⟨b, o + k * 3, none⟩ = some (.int .i64 (bs[k].fr : Nat))) := Lib.hid (fun k hk => by
    have hcl := bCells_len bs vs hv
    obtain ⟨b, o, rfl, hc⟩ := Reads.cellsAt hr (by omega)
    exact ⟨b, o, rfl, hc _ _ (bCells_at bs vs k bs[k] vs[k] (List.getElem?_eq_getElem hk) (List.getElem?_eq_getElem (by omega))).1⟩)
  have HS := Lib.hid hs
  have HX := Lib.hid hx
  clear hr hs hx
  go_enter Tryz.func40, Tryz.ntmps40
  go_wp2_with fail
  go_loop [5] (fun y => ∃ k : Nat, k ≤ bs.length ∧ y = .int .i64 k ∧ Hid (∀ j (h : j < bs.length), j < k → bs[j].fr ≠ x)) (fun y => (bs.length - intOf y).toNat)
  case atStart => exact ⟨0, by omega, rfl, Lib.hid (fun j _ h => by omega)⟩
  case round =>
    obtain ⟨k, hk, rfl, hpre⟩ := hrel
    by_cases hks : k < bs.length
    · have hks' : (k : Int) < bs.length := by omega
      obtain ⟨b, o, rfl, cf⟩ := HCL.out k hks
      by_cases he : bs[k].fr = x
      · have hc : (((bs[k].fr : Nat) : Int) == (x : Int)) = true := by simp [he]
        have HQ : Hid (idx (bs.map Bk.fr) x = k) := Lib.hid (by
          have := idx_at HS.out k (by simpa using hks)
          rw [List.getElem_map, he] at this
          exact this)
        generalize bs[k].fr = y at *
        clear he
        go_wp2_with fail
        go_ret
        exact ⟨by rw [HQ.out]; rfl, rfl⟩
      · have hc : (((bs[k].fr : Nat) : Int) == (x : Int)) = false := by simp; omega
        have HN : Hid (∀ j (h : j < bs.length), j < k + 1 → bs[j].fr ≠ x) := Lib.hid (fun j hj hjk => by
          by_cases e : j = k
          · subst e; exact he
          · exact hpre.out j hj (by omega))
        generalize bs[k].fr = y at *
        clear he
        go_wp2_with fail
        go_round
        case rel => exact ⟨k + 1, by omega, by go_num, HN⟩
        case measure => first | (simp [intOf]; done) | (simp [intOf]; omega)
    · obtain rfl : k = bs.length := by omega
      exfalso
      obtain ⟨q, hq, he⟩ := List.mem_map.1 HX.out
      obtain ⟨j, hj, rfl⟩ := List.getElem_of_mem hq
      exact hpre.out j hj hj he

end Go.Proofs.YtgofiaodncemiaaGreat

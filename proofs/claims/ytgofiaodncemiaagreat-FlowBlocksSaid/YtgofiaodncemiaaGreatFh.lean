/- law10's helpers: long, six, sameLists, sameBools, has. -/
import Derived.Test.YtgofiaodncemiaaGreatFg
set_option linter.unusedSimpArgs false
set_option linter.unusedVariables false
set_option linter.unusedSectionVars false
set_option linter.unnecessarySimpa false
namespace Go.Proofs.YtgofiaodncemiaaGreat
open Go.RowKit Go.Flow

attribute [local go_sem] Program.isFuncB Program.isSliceB

variable {w w' w'' w0 : World}

set_option maxRecDepth 100000 in
set_option maxHeartbeats 4000000 in
/-- are they more than are gone through? -/
theorem long10_ok (w : World) (sa : Option Addr) (c : Nat) (is : List Ix) (hin : CodeIn w sa is) (hlen : is.length ≤ maxLen) (hargs : ∀ i ∈ is, i.l.length ≤ maxLen) :
    Calls Tryz.prog 5 #[.slice sa is.length c] w (LongR w 60 is) := by
  have HIN := Lib.hid hin
  have HAR := Lib.hid hargs
  have hl2 : is.length ≤ 9223372036854775807 := by unfold maxLen at hlen; exact hlen
  clear hin hargs hlen
  go_enter Tryz.func5, Tryz.ntmps5
  go_wp2_with fail
  go_loopw [3] (fun y wr => ∃ k : Nat, k ≤ is.length ∧ k ≤ 61 ∧ y = .int .i64 k ∧ Hid (∀ i ∈ is.take k, i.l.length ≤ 20) ∧ Hid (Fr no w wr)) (fun y _ => (is.length - intOf y).toNat)
  case atStart => exact ⟨0, by omega, by omega, rfl, Lib.hid (by simp), Lib.hid (Fr.refl _ _)⟩
  case round =>
    obtain ⟨k, hk, hkm, rfl, hpre, hfr⟩ := hrel
    by_cases hks : k < is.length
    · have hks' : (k : Int) < is.length := by omega
      by_cases hkm2 : k < 61
      · have hkm3 : (k : Int) < 61 := by omega
        obtain ⟨b, of, u, rfl, hi⟩ := HIN.out.fr hfr.out k hks
        obtain ⟨ua, uc, rfl⟩ := hi.args.shape
        have c5 := hi.six.2.2.2.2.2
        have hal := HAR.out is[k] (List.getElem_mem _)
        unfold maxLen at hal
        have HN : Hid (is[k].l.length ≤ 20 → ∀ i ∈ is.take (k + 1), i.l.length ≤ 20) := Lib.hid (fun h i hi => by
          rw [List.take_succ_eq_append_getElem hks, List.mem_append, List.mem_singleton] at hi
          rcases hi with hi | rfl
          · exact hpre.out i hi
          · exact h)
        generalize is[k].l.length = al at *
        clear hi
        by_cases h20 : al ≤ 20
        · have h20' : ¬ (20 : Int) < al := by omega
          have HN2 := Lib.hid (HN.out h20)
          go_wp2_with fail
          go_roundw
          case rel => exact ⟨k + 1, by omega, by omega, by go_num, HN2, hfr⟩
          case measure => first | (simp [intOf]; done) | (simp [intOf]; omega)
        · have h20' : (20 : Int) < al := by omega
          go_wp2_with fail
          go_ret
          exact ⟨true, rfl, fun h => (by cases h), hfr.out⟩
      · have hkm3 : ¬ (k : Int) < 61 := by omega
        have h3 : (60 : Int) < is.length := by omega
        go_wp2_with fail
        go_ret
        exact ⟨true, rfl, fun h => (by cases h), hfr.out⟩
    · obtain rfl : k = is.length := by omega
      have HP : Hid (∀ i ∈ is, i.l.length ≤ 20) := Lib.hid (by have := hpre.out; rwa [List.take_length] at this)
      by_cases h3 : is.length ≤ 60
      · have h3' : ¬ (60 : Int) < is.length := by omega
        go_wp2_with fail
        go_ret
        exact ⟨false, rfl, fun _ => ⟨h3, HP.out⟩, hfr.out⟩
      · have h3' : (60 : Int) < is.length := by omega
        go_wp2_with fail
        go_ret
        exact ⟨true, rfl, fun h => (by cases h), hfr.out⟩

/-! ### the chapter's code -/
def lit (o N : Int) : Ix := ⟨o, 0, 0, 0, N, []⟩
def litCells (is : List Ix) : List Value := is.flatMap fun i => i.cells (.slice none 0 0)
theorem litCells_at : ∀ (is : List Ix) (k : Nat) (hk : k < is.length) (j : Nat), j < 6 → (litCells is)[k * 6 + j]? = (is[k].cells (.slice none 0 0))[j]?
  | [], k, hk, _, _ => by simp at hk
  | i :: is, 0, _, j, hj => by
    have : ((litCells (i :: is)))[0 * 6 + j]? = (i.cells (.slice none 0 0) ++ litCells is)[j]? := by simp [litCells]
    rw [this, List.getElem?_append_left (by simp [Ix.cells]; omega)]
    rfl
  | i :: is, k + 1, hk, j, hj => by
    have h6 : (i.cells (.slice none 0 0)).length = 6 := rfl
    have : ((litCells (i :: is)))[(k + 1) * 6 + j]? = (i.cells (.slice none 0 0) ++ litCells is)[(k + 1) * 6 + j]? := by simp [litCells]
    rw [this, List.getElem?_append_right (by rw [h6]; omega), h6, show (k + 1) * 6 + j - 6 = k * 6 + j from by omega]
    exact litCells_at is k (by simpa using hk) j hj
theorem codeIn_lit {b : Nat} {is : List Ix} {t : TypeId} (h : w.heap[b]? = some (.cells (litCells is).toArray t (0, 0))) (ha : ∀ i ∈ is, i.l = []) : CodeIn w (some ⟨b, 0, none⟩) is := by
  intro k hk
  refine ⟨b, 0, .slice none 0 0, rfl, fun j v hj => ?_, ?_⟩
  · have hj6 : j < 6 := by have := (List.getElem?_eq_some_iff.1 hj).1; simpa [Ix.cells] using this
    refine cell_of_heap h ?_
    rw [List.getElem?_toArray, Nat.zero_add, litCells_at is k hk j hj6]
    exact hj
  · rw [ha _ (List.getElem_mem hk)]
    exact .inl ⟨rfl, rfl, rfl⟩
def sixL : List Ix := [lit 1 0, lit 26 14, lit 0 0, lit 25 0, lit 29 0, lit 29 0]
theorem six_lit : ∀ i ∈ sixL, i.l = [] := by intro i hi; simp [sixL, lit] at hi; rcases hi with rfl | rfl | rfl | rfl | rfl <;> rfl
theorem six_few : ∀ i ∈ sixL, i.l.length ≤ 1000 := fun i hi => by rw [six_lit i hi]; simp
theorem six_rng : ∀ i ∈ sixL, rng i.N := by intro i hi; simp [sixL, lit] at hi; rcases hi with rfl | rfl | rfl | rfl | rfl <;> (simp [rng])
theorem six_ck : flowCk sixL = 0 := by kernel_rfl
theorem six_nxs : nxs (fis sixL) = [[1], [2], [3], [0], [], []] := by kernel_rfl
theorem six_blks : (blks (fis sixL)).map (fun b => (b.fr, b.to, b.nx)) = [(0, 2, [1]), (2, 4, [0]), (4, 5, []), (5, 6, [])] := by kernel_rfl
set_option maxHeartbeats 1000000 in
theorem six_ok (w : World) : Calls Tryz.prog 21 #[] w fun e w' => e = .returned (.slice (some ⟨w.heap.size, 0, none⟩) 6 6) ∧ CodeIn w' (some ⟨w.heap.size, 0, none⟩) sixL ∧ Fr no w w' := by
  have HC : Hid (∀ w', w'.heap[w.heap.size]? = some (.cells (litCells sixL).toArray 46 (0, 0)) → CodeIn w' (some ⟨w.heap.size, 0, none⟩) sixL) := Lib.hid (fun w' h => codeIn_lit h six_lit)
  go_enter Tryz.func21, Tryz.ntmps21
  go_wp2_with fail
  go_ret
  exact ⟨rfl, HC.out _ (heap_new _ _), (Fr.refl _ _).alloc _⟩

/-! ### are lists the same? -/
theorem nats_inj {a b : List Nat} : nats a = nats b ↔ a = b := by
  unfold nats
  exact ⟨fun h => List.map_inj_right (fun x y h => by omega) |>.1 h, fun h => by rw [h]⟩
theorem NxIn.at_ {sa : Option Addr} {c n : Nat} {ls : List (List Nat)} (h : NxIn w (.slice sa n c) ls) (k : Nat) (hk : k < ls.length) :
    ∃ b o a c', sa = some ⟨b, o, none⟩ ∧ w.cell? ⟨b, o + k, none⟩ = some (.slice a ls[k].length c') ∧ Reads w (.slice a ls[k].length c') 1 ls[k].length (ints (nats ls[k])) := by
  obtain ⟨vs, h1, h2⟩ := h
  have hl := h1.len
  obtain ⟨a', c'', hv⟩ := h1.shape
  cases hv
  have hkv : k < vs.length := by omega
  obtain ⟨b, o, rfl, hc⟩ := h1.at1 (k := k) (u := vs[k]) (List.getElem?_eq_getElem hkv)
  have hr := h2 k _ _ (List.getElem?_eq_getElem hkv) (List.getElem?_eq_getElem hk)
  obtain ⟨ra, rc, he⟩ := hr.shape
  rw [he] at hc hr
  exact ⟨b, o, ra, rc, rfl, hc, hr⟩
theorem NxIn.shape {u : Value} {ls : List (List Nat)} (h : NxIn w u ls) : ∃ a c, u = .slice a ls.length c := by
  obtain ⟨vs, h1, h2⟩ := h
  exact h1.shape

set_option maxRecDepth 100000 in
set_option maxHeartbeats 4000000 in
theorem samelists_ok (w : World) (sa sb : Option Addr) (ca cb : Nat) (is js : List (List Nat)) (hin : NxIn w (.slice sa is.length ca) is) (hjn : NxIn w (.slice sb js.length cb) js) (hlen : is.length ≤ 100000) (hargs : ∀ i ∈ is, i.length ≤ 100000) :
    Calls Tryz.prog 12 #[.slice sa is.length ca, .slice sb js.length cb] w fun e w' => e = .returned (.bool (decide (is = js))) ∧ Fr no w w' := by
  by_cases hl : is.length = js.length
  case neg =>
    have HN : Hid (decide (is = js) = false) := Lib.hid (decide_eq_false (fun e => hl (by rw [e])))
    have e1 : ((is.length : Int) != (js.length : Int)) = true := by rw [bne_iff_ne]; omega
    clear hl hin hjn hargs
    go_enter Tryz.func12, Tryz.ntmps12
    go_wp2_with fail
    go_ret
    exact ⟨by rw [HN.out]; rfl, Fr.refl _ _⟩
  have HIN := Lib.hid hin
  have HJN := Lib.hid hjn
  have HAR := Lib.hid hargs
  have hl0 := hl
  clear hin hjn hargs hl
  generalize hmm : js.length = mm at *
  obtain rfl : mm = is.length := by omega
  have HJL := Lib.hid hmm
  clear hmm hl0
  go_enter Tryz.func12, Tryz.ntmps12
  go_wp2_with fail
  go_loopw [5] (fun x wr => ∃ k : Nat, k ≤ is.length ∧ x = .int .i64 k ∧ Hid (is.take k = js.take k) ∧ Hid (Fr no w wr)) (fun x _ => (is.length - intOf x).toNat)
  case atStart => exact ⟨0, by omega, rfl, Lib.hid rfl, Lib.hid (Fr.refl _ _)⟩
  case round =>
    obtain ⟨k, hk, rfl, hpre, hfr⟩ := hrel
    by_cases hks : k < is.length
    · have hks' : (k : Int) < is.length := by omega
      have hkj : k < js.length := by have := HJL.out; omega
      obtain ⟨b1, o1, a1, d1, rfl, h1, g1⟩ := (HIN.out.fr hfr.out).at_ k hks
      obtain ⟨b2, o2, a2, d2, rfl, h2, g2⟩ := (HJN.out.fr hfr.out).at_ k hkj
      obtain ⟨i1, hi1⟩ : ∃ i, i = is[k] := ⟨_, rfl⟩
      obtain ⟨i2, hi2⟩ : ∃ i, i = js[k] := ⟨_, rfl⟩
      have HS := Lib.hid (fun w1 (r : Fr no wr w1) => same_ints w1 (.slice a1 i1.length d1) (.slice a2 i2.length d2) (nats i1) (nats i2) (by rw [hi1, nats_len]; exact g1.fr r (by simp)) (by rw [hi2, nats_len]; exact g2.fr r (by simp)) (by have := HAR.out _ (List.getElem_mem hks); rw [hi1, nats_len]; omega))
      have HD : Hid (decide (nats i1 = nats i2) = decide (is.take (k + 1) = js.take (k + 1))) := Lib.hid (by
        rw [List.take_succ_eq_append_getElem hks, List.take_succ_eq_append_getElem hkj, hpre.out, ← hi1, ← hi2]
        apply decide_eq_decide.2
        rw [nats_inj]
        simp)
      have HB : Hid (decide (is.take (k + 1) = js.take (k + 1)) = false → decide (is = js) = false) := Lib.hid (fun h => decide_eq_false (fun e => by rw [e] at h; simp at h))
      have HT : Hid (decide (is.take (k + 1) = js.take (k + 1)) = true → is.take (k + 1) = js.take (k + 1)) := Lib.hid (fun h => by simpa using h)
      have rd := (Fr.refl no wr).drew
      have HS1 := Lib.hid (HS.out _ rd)
      have R1 := Lib.hid (hfr.out.drew)
      rw [← hi1] at h1
      rw [← hi2] at h2
      rw [← HD.out] at HB HT
      clear rd hi1 hi2 HS g1 g2 HD
      generalize decide (nats i1 = nats i2) = q at *
      go_wp2_with fail
      refine Lex.region [8] [10] (by kernel_rfl) (by kernel_rfl) ?_
      refine Lex.opens (fun w' => w'.cell? ⟨b1, o1 + k, none⟩ = some (.slice a1 i1.length d1) ∧ w'.cell? ⟨b2, o2 + k, none⟩ = some (.slice a2 i2.length d2)) (⟨h1, h2⟩) ?_
      repeat (first
        | (refine Lex.skips (by rfl) ?_; (try simp only [Act.put, List.setIfInBounds_toArray, List.set_cons_zero, List.set_cons_succ]))
        | (refine Lex.quiet (v := ?_) (by rfl) (by rfl) ?_ ?_; rotate_left; (focus (intro w' hS'; go_simp; try rfl)); (try simp only [Act.put, List.setIfInBounds_toArray, List.set_cons_zero, List.set_cons_succ])))
      refine Lex.loud (by rfl) (by rfl) ?_
      intro K' hK'
      go_simp
      refine HS1.out.mono ?_
      rintro e w2 ⟨rfl, q2, rfl⟩
      have R2 := Lib.hid (R1.out.drewN q2)
      refine hK' _ _ (⟨h1, h2⟩) ?_
      clear hK'
      try simp only [Act.put, List.setIfInBounds_toArray, List.set_cons_zero, List.set_cons_succ]
      repeat (first
        | (refine Lex.skips (by rfl) ?_; (try simp only [Act.put, List.setIfInBounds_toArray, List.set_cons_zero, List.set_cons_succ]))
        | (refine Lex.quiet (v := ?_) (by rfl) (by rfl) ?_ ?_; rotate_left; (focus (intro w' hS'; go_simp; try rfl)); (try simp only [Act.put, List.setIfInBounds_toArray, List.set_cons_zero, List.set_cons_succ])))
      refine Lex.done ?_
      refine Lex.ends ?_
      cases q
      · have HF := Lib.hid (HB.out rfl)
        clear h1 h2
        go_wp2_with fail
        go_ret
        exact ⟨by rw [HF.out]; rfl, hfr.out.drewN _⟩
      · have HT2 := Lib.hid (HT.out rfl)
        clear h1 h2
        go_wp2_with fail
        go_roundw
        case rel => exact ⟨k + 1, by omega, by go_num, HT2, Lib.hid (hfr.out.drewN _)⟩
        case measure => first | (simp [intOf]; done) | (simp [intOf]; omega)
    · obtain rfl : k = is.length := by omega
      have HE : Hid (is = js) := Lib.hid (by have := hpre.out; rw [List.take_length, ← HJL.out, List.take_length] at this; exact this)
      go_wp2_with fail
      go_ret
      exact ⟨by rw [decide_eq_true HE.out]; rfl, hfr.out⟩


set_option maxRecDepth 100000 in
set_option maxHeartbeats 4000000 in
theorem samebools_ok (w : World) (sa sb : Option Addr) (ca cb : Nat) (l m : List Bool) (ha : Reads w (.slice sa l.length ca) 1 l.length (bools l)) (hb : Reads w (.slice sb m.length cb) 1 m.length (bools m)) (h1 : l.length ≤ 1000000) :
    Calls Tryz.prog 13 #[.slice sa l.length ca, .slice sb m.length cb] w fun e w' => e = .returned (.bool (decide (l = m))) ∧ Fr no w w' := by
  by_cases hlen : l.length = m.length
  · have HA := Lib.hid ha
    have HB := Lib.hid hb
    clear ha hb
    have hlen' : (m.length : Int) = l.length := by omega
    clear hlen
    generalize hmm : m.length = mm at *
    obtain rfl : mm = l.length := by omega
    have HL2 := Lib.hid hmm
    clear hmm hlen'
    go_enter Tryz.func13, Tryz.ntmps13
    go_wp2_with fail
    go_loopw [5] (fun x wr => ∃ i : Nat, x = .int .i64 i ∧ i ≤ l.length ∧ Hid (l.take i = m.take i) ∧ Hid (Fr no w wr)) (fun x _ => (l.length - intOf x).toNat)
    case atStart => exact ⟨0, rfl, by omega, Lib.hid (by simp), Lib.hid (Fr.refl _ _)⟩
    case round =>
      obtain ⟨i, rfl, hi, hpre, hfr⟩ := hrel
      by_cases hlt : i < l.length
      · have hlt2 : i < m.length := by rw [HL2.out]; exact hlt
        obtain ⟨b, o, rfl, c1⟩ := (HA.out.fr hfr.out (by simp)).at1 (k := i) (u := .bool l[i]) (by simp [bools, hlt])
        obtain ⟨b', o', rfl, c2⟩ := (HB.out.fr hfr.out (by simp)).at1 (k := i) (u := .bool m[i]) (by simp [bools, hlt2])
        have hlt' : (i : Int) < l.length := by omega
        by_cases hne : l[i] = m[i]
        · have hpre2 : Hid (l.take (i + 1) = m.take (i + 1)) := by
            refine Lib.hid ?_
            rw [List.take_succ_eq_append_getElem hlt, List.take_succ_eq_append_getElem hlt2, hpre.out, hne]
          rw [← hne] at c2
          clear hne hpre
          generalize l[i] = p at c1 c2
          cases p
          all_goals
            go_wp2_with fail
            go_quiet (fail)
            go_wp2_with fail
            go_roundw
            case rel => exact ⟨i + 1, by go_num, by omega, hpre2, Lib.hid (hfr.out.drewN _)⟩
            case measure => first | (simp [intOf]; done) | (simp [intOf]; omega)
        · have hno : Hid (l ≠ m) := Lib.hid (by rintro rfl; exact hne rfl)
          generalize l[i] = p at c1 hne
          generalize m[i] = p2 at c2 hne
          cases p <;> cases p2 <;> first | exact absurd rfl hne | skip
          all_goals
            clear hne hpre
            go_wp2_with fail
            go_quiet (fail)
            go_wp2_with fail
            go_ret
            refine ⟨?_, hfr.out.drewN _⟩
            rw [decide_eq_false hno.out]; rfl
      · obtain rfl : i = l.length := by omega
        have heq : Hid (l = m) := Lib.hid (by have := hpre.out; rwa [List.take_length, ← HL2.out, List.take_length] at this)
        clear hpre
        go_wp2_with fail
        go_ret
        refine ⟨?_, hfr.out⟩
        rw [decide_eq_true heq.out]; rfl
  · have hno : Hid (l ≠ m) := Lib.hid (fun e => hlen (by rw [e]))
    have hc : ((l.length : Int) == (m.length : Int)) = false := by rw [beq_eq_false_iff_ne]; omega
    clear ha hb hlen
    go_enter Tryz.func13, Tryz.ntmps13
    go_wp2_with fail
    go_ret
    refine ⟨?_, Fr.refl _ _⟩
    rw [decide_eq_false hno.out]; rfl

end Go.Proofs.YtgofiaodncemiaaGreat

/- The document's Reached (law10). -/
import Derived.Test.YtgofiaodncemiaaGreatZb
import Derived.Test.YtgofiaodncemiaaGreatFj
set_option linter.unusedSimpArgs false
set_option linter.unusedVariables false
set_option linter.unusedSectionVars false
set_option linter.unnecessarySimpa false
namespace Go.Proofs.YtgofiaodncemiaaGreat
open Go.RowKit Go.Flow

attribute [local go_sem] Program.isFuncB Program.isSliceB

variable {w w' w'' w0 : World}

/-- a pass over all: what it started from, has anything turned, what is reached by now, how far it is -/
structure Pass (g : Nat → List Nat) (n : Nat) (ob0 : List Bool) (more : Bool) (ob : List Bool) (i k : Nat) : Prop where
  len : ob.length = n
  snd : ∀ x, ob[x]? = some true → Flow.Reach g x
  zero : ob[0]? = some true
  yes : more = true → ob.countP (fun b => !b) < ob0.countP (fun b => !b)
  no : more = false → ob = ob0
  old : more = false → ∀ k', k' < i → ob[k']? = some true → ∀ x ∈ g k', ob[x]? = some true
  cur : more = false → ob[i]? = some true → ∀ j x, j < k → (g i)[j]? = some x → ob[x]? = some true
theorem Pass.step {g : Nat → List Nat} {n : Nat} {ob0 ob : List Bool} {more : Bool} {i k y : Nat} (h : Pass g n ob0 more ob i k) (hi : ob[i]? = some true) (hy : (g i)[k]? = some y) (hyn : y < n) (m2 : Bool) (hm : m2 = (more || !(ob[y]?).getD false)) : Pass g n ob0 m2 (ob.set y true) i (k + 1) := by
  have hyl : y < ob.length := by rw [h.len]; exact hyn
  have hry : Flow.Reach g y := (h.snd i hi).step (List.mem_of_getElem? hy)
  cases hoy : ob[y] with
  | true =>
    have hs : ob.set y true = ob := by
      apply List.ext_getElem? ; intro j
      rw [List.getElem?_set]
      split
      · rename_i e; subst e; simp [hyl, hoy]
      · rfl
    have hm2 : m2 = more := by rw [hm, List.getElem?_eq_getElem hyl, hoy]; simp
    rw [hs, hm2]
    refine ⟨h.len, h.snd, h.zero, h.yes, h.no, h.old, fun hf ht j x hj hx => ?_⟩
    by_cases e : j = k
    · subst e
      rw [hy] at hx
      obtain rfl := Option.some.inj hx
      rw [List.getElem?_eq_getElem hyl, hoy]
    · exact h.cur hf ht j x (by omega) hx
  | false =>
    have hm2 : m2 = true := by rw [hm, List.getElem?_eq_getElem hyl, hoy]; simp
    have hc := countP_set (ob := ob) (i := y) (by rw [List.getElem?_eq_getElem hyl, hoy])
    have hle : ob.countP (fun b => !b) ≤ ob0.countP (fun b => !b) := by
      cases more with
      | true => exact Nat.le_of_lt (h.yes rfl)
      | false => rw [h.no rfl]; exact Nat.le_refl _
    rw [hm2]
    refine ⟨by rw [List.length_set]; exact h.len, fun x hx => ?_, ?_, fun _ => by omega, fun e => (by cases e), fun e => (by cases e), fun e => (by cases e)⟩
    · rw [List.getElem?_set] at hx
      split at hx
      · rename_i e; subst e; exact hry
      · exact h.snd x hx
    · rw [List.getElem?_set]
      split
      · rename_i e; subst e; simp [hyl]
      · exact h.zero
theorem Pass.next {g : Nat → List Nat} {n : Nat} {ob0 ob : List Bool} {more : Bool} {i k : Nat} (h : Pass g n ob0 more ob i k) (hk : ob[i]? = some true → (g i).length ≤ k) : Pass g n ob0 more ob (i + 1) 0 :=
  ⟨h.len, h.snd, h.zero, h.yes, h.no, fun hf k' hk' ht x hx => by
    by_cases e : k' = i
    · subst e
      obtain ⟨j, hj, rfl⟩ := List.getElem_of_mem hx
      exact h.cur hf ht j _ (by have := hk ht; omega) (List.getElem?_eq_getElem hj)
    · exact h.old hf k' (by omega) ht x hx, fun _ _ j x hj => by omega⟩
/-- between the passes -/
structure Found (g : Nat → List Nat) (n : Nat) (more : Bool) (ob : List Bool) : Prop where
  len : ob.length = n
  snd : ∀ x, ob[x]? = some true → Flow.Reach g x
  zero : ob[0]? = some true
  cl : more = false → ∀ k, ob[k]? = some true → ∀ x ∈ g k, ob[x]? = some true
theorem Found.start {g : Nat → List Nat} {n : Nat} {more : Bool} {ob : List Bool} (h : Found g n more ob) : Pass g n ob false ob 0 0 :=
  ⟨h.len, h.snd, h.zero, fun e => (by cases e), fun _ => rfl, fun _ k' hk' => by omega, fun _ _ j x hj => by omega⟩
theorem Pass.found {g : Nat → List Nat} {n : Nat} {ob0 ob : List Bool} {more : Bool} (h : Pass g n ob0 more ob n 0) : Found g n more ob :=
  ⟨h.len, h.snd, h.zero, fun e k hk x hx => h.old e k (by have := (List.getElem?_eq_some_iff.1 hk).1; rw [h.len] at this; exact this) hk x hx⟩
theorem Found.all {g : Nat → List Nat} {n : Nat} {ob : List Bool} (h : Found g n false ob) (k : Nat) : ob[k]? = some true ↔ Flow.Reach g k :=
  ⟨h.snd k, fun hr => reach_least (S := fun k => ob[k]? = some true) h.zero (fun k x hk hx => h.cl rfl k hk x hx) hr⟩
theorem Found.first {g : Nat → List Nat} {n : Nat} (hn : 0 < n) : Found g n true ((List.replicate n false).set 0 true) :=
  ⟨by simp, fun x hx => by
    rw [List.getElem?_set] at hx
    split at hx
    · rename_i e; subst e; exact Flow.Reach.zero
    · rw [List.getElem?_replicate] at hx; split at hx <;> simp at hx, by rw [List.getElem?_set]; simp [hn], fun e => (by cases e)⟩
theorem bools_setA (ml : List Bool) (i : Nat) (b : Bool) : ((bools ml).toArray.setIfInBounds i (.bool b)) = (bools (ml.set i b)).toArray := by simp [bools, List.map_set]

set_option maxRecDepth 100000 in
set_option maxHeartbeats 8000000 in
theorem rreached_ok (w : World) (sa : Option Addr) (c : Nat) (is : List Ix) (hin : CodeIn w sa is) (hlen : is.length ≤ 1000) (hargs : ∀ i ∈ is, i.l.length ≤ 1000) :
    Calls Tryz.prog 11 #[.slice sa is.length c] w (ReachPost w (flowCk is) (fis is)) := by
  have HIN := Lib.hid hin
  have HC := Lib.hid (rcheck_ok w sa c is hin hlen hargs)
  have HNU := Lib.hid (fun w1 (r : Fr no w w1) => places_ok w1 sa c is (hin.fr r) hlen hargs)
  have HFL : Hid (flowCk is = 0 → Flows (fis is)) := Lib.hid flowCk_flows
  generalize flowCk is = ck at *
  clear hin hargs
  go_enter Tryz.func11, Tryz.ntmps11
  go_wp2_with fail
  refine HC.out.mono ?_
  rintro e w1 ⟨rfl, r1⟩
  have R1 := Lib.hid r1
  have HNU1 := Lib.hid (HNU.out w1 r1)
  clear r1 HC HNU
  by_cases hj : ck = 0
  case neg =>
    have e1 : (ck != 0) = true := by simpa using hj
    have HJ := Lib.hid hj
    clear hj
    go_wp2_with fail
    go_ret2
    exact ReachPost.bad HJ.out R1.out
  have HF := Lib.hid (HFL.out hj)
  subst hj
  clear HFL
  have hpos : 0 < is.length := by have := HF.out.pos; rw [fis_len] at this; exact this
  have hpos' : (0 : Int) < is.length := by omega
  go_wp2_with fail
  refine HNU1.out.mono ?_
  rintro e w2 ⟨pv, rfl, hp, r2⟩
  obtain ⟨pa, pc, rfl⟩ := owns_shape hp
  have HP := Lib.hid (owns_reads hp)
  have R2 := Lib.hid (R1.out.trans r2)
  clear hp r2 HNU1
  go_upto_region 6 with ((refine wpList_make_any rfl (.tmp 19) (.tmp 19) 30 rfl w2.heap.size 4 (.bool false) 1 Tryz.underlying30 Tryz.infoBool rfl .i64 .i64 is.length is.length is.length rfl rfl rfl rfl (by omega) (by unfold maxLen; omega) (Nat.le_refl _) ?_); intro w3 ho3 hg3)
  have HG3 : Hid (w3.heap[w2.heap.size]? = some (.cells (bools (List.replicate is.length false)).toArray 4 (0, 0))) := Lib.hid (by rw [bools_rep]; exact owns_full ho3)
  have q3 := (Fr.refl no w2).grown hg3 (by intro k hk; cases hk)
  obtain ⟨og, hog⟩ : ∃ g, g = w2.heap.size := ⟨_, rfl⟩
  have HOG := Lib.hid hog
  rw [← hog] at HG3 ⊢
  have c0 : w3.cell? ⟨og, 0, none⟩ = some (.bool false) := cell_of_heap HG3.out (by simp [bools, hpos])
  have f0 : w3.frozen? ⟨og, 0, none⟩ = false := frozen_of_heap HG3.out
  have R3 := Lib.hid q3
  clear ho3 hg3 q3 hog
  go_upto_region 7 with fail
  have HG4 : Hid ((w3.setCell ⟨og, 0, none⟩ (.bool true)).heap[og]? = some (.cells (bools ((List.replicate is.length false).set 0 true)).toArray 4 (0, 0))) := Lib.hid (by rw [heap_setCell HG3.out, bools_setA])
  have R4 := Lib.hid (R3.out.setCell ⟨og, 0, none⟩ (.bool true) (.inr (by have := HOG.out; simp; omega)))
  have HF0 : Hid (Found (nx (fis is)) is.length true ((List.replicate is.length false).set 0 true)) := Lib.hid (Found.first hpos)
  clear c0 f0 HG3 R3
  generalize w3.setCell ⟨og, 0, none⟩ (.bool true) = w4 at *
  go_wp2_with fail
  go_loopw [7] (fun x wr => ∃ (more : Bool) (ob : List Bool), x = .bool more ∧ Hid (Found (nx (fis is)) is.length more ob) ∧ Hid (wr.heap[og]? = some (.cells (bools ob).toArray 4 (0, 0))) ∧ Hid (Fr no w2 wr)) (fun x wr => 2 * cntF wr og + isT x)
  case atStart => exact ⟨true, _, rfl, HF0, HG4, R4⟩
  case round =>
    clear HF0 HG4 R4
    obtain ⟨more, ob, rfl, hfo, hG, hfr⟩ := hrel
    cases more
    · have HQ := Lib.hid (fun k => hfo.out.all k)
      have HL : Hid (ob.length = (fis is).length) := Lib.hid (by rw [fis_len]; exact hfo.out.len)
      have HR : Hid (Reads wr (.slice (some ⟨og, 0, none⟩) is.length is.length) 1 (fis is).length (bools ob)) := Lib.hid (by
        rw [fis_len]
        exact reads_block hG.out (by simp [bools, hfo.out.len]) (by omega))
      have F := Lib.hid (R2.out.trans hfr.out)
      clear hfo hG hfr
      go_wp2_with fail
      go_ret2
      exact ReachPost.good HL.out HR.out HQ.out F.out
    · have HP0 : Hid (Pass (nx (fis is)) is.length ob false ob 0 0) := Lib.hid hfo.out.start
      have HMF : Hid (∀ (w' : World) (v : Value), 2 * cntF w' og + isT v < 2 * ob.countP (fun b => !b) + 1 → 2 * cntF w' og + isT v < 2 * cntF wr og + isT (.bool true)) := Lib.hid (fun w' v h => by rw [cntF_at hG.out]; simpa [isT] using h)
      go_wp2_with fail
      clear hfo
      go_loopw [7, 8] (fun x y wr => ∃ (more : Bool) (ob' : List Bool) (i : Nat), i ≤ is.length ∧ x = .bool more ∧ y = .int .i64 i ∧ Hid (Pass (nx (fis is)) is.length ob more ob' i 0) ∧ Hid (wr.heap[og]? = some (.cells (bools ob').toArray 4 (0, 0))) ∧ Hid (Fr no w2 wr)) (fun _ y _ => (is.length - intOf y).toNat)
      case atStart => exact ⟨false, _, 0, by omega, rfl, rfl, HP0, hG, hfr⟩
      case round =>
        clear HP0 hG hfr
        obtain ⟨more, ob', i, hi, rfl, rfl, hps, hG, hfr⟩ := hrel
        by_cases his : i < is.length
        · have his' : (i : Int) < is.length := by omega
          have HN1 := Lib.hid (rnext1_ok wr sa pa c pc is i (HIN.out.fr (R2.out.trans hfr.out)) (HP.out.fr hfr.out (by simp)) hlen his HF.out)
          have HXL : Hid (∀ x ∈ nx (fis is) i, x < is.length) := Lib.hid (fun x h => by have := nx_lt HF.out h; rwa [fis_len] at this)
          obtain ⟨g, hg⟩ : ∃ g, g = nx (fis is) := ⟨_, rfl⟩
          have HGG := Lib.hid hg
          have hgi : nx (fis is) i = g i := by rw [hg]
          have hnf := nx_few (fis is) i
          rw [hgi] at HN1 HXL hnf
          rw [← hg] at hps
          clear hg hgi
          generalize hnk : g i = nk at *
          have HNK := Lib.hid hnk
          clear hnk
          go_wp2_with fail
          refine HN1.out.mono ?_
          rintro e w5 ⟨u, rfl, hu, r5⟩
          obtain ⟨ua, uc, rfl⟩ := owns_shape hu
          have HU := Lib.hid (owns_reads hu)
          have HUL := Lib.hid hu.lt
          have hG5 := Lib.hid (r5.heap hG.out (by simp))
          have hf5 := Lib.hid (hfr.out.trans r5)
          have hog5 : og < wr.heap.size := (Array.getElem?_eq_some_iff.1 hG.out).1
          have HNB : Hid (∀ b, (Value.slice ua nk.length uc).ownBlock = some b → b ≠ og) := Lib.hid (fun b hb => by have := (hu.lt b hb).1; omega)
          clear hu r5 HN1 hG hfr HUL
          go_wp2_with fail
          clear hog5
          go_loopw [7, 10] (fun x y wr => ∃ (more : Bool) (ob' : List Bool) (k : Nat), k ≤ nk.length ∧ x = .bool more ∧ y = .int .i64 k ∧ Hid (Pass g is.length ob more ob' i k) ∧ Hid (wr.heap[og]? = some (.cells (bools ob').toArray 4 (0, 0))) ∧ Hid (Fr (only [og]) w5 wr)) (fun _ y _ => (nk.length - intOf y).toNat)
          case atStart => exact ⟨more, ob', 0, by omega, rfl, rfl, hps, hG5, Lib.hid (Fr.refl _ _)⟩
          case round =>
            clear hps hG5
            obtain ⟨more, ob', k, hk, rfl, rfl, hps, hG, hfr⟩ := hrel
            have hio : i < ob'.length := by rw [hps.out.len]; exact his
            have co : wr.cell? ⟨og, i, none⟩ = some (.bool ob'[i]) := cell_of_heap hG.out (by simp [bools, hio])
            have HOI : Hid (ob'[i]? = some ob'[i]) := Lib.hid (List.getElem?_eq_getElem hio)
            generalize ob'[i] = oi at *
            have F2 := Lib.hid (hf5.out.trans' hfr.out (fun b hb _ => by have := HOG.out; simp at hb; omega))
            cases oi
            · -- it is not reached: the loop ends
              have HNX : Hid (Pass (nx (fis is)) is.length ob more ob' (i + 1) 0) := Lib.hid (by rw [← HGG.out]; exact hps.out.next (fun h => by rw [HOI.out] at h; cases h))
              clear hps hfr hf5
              go_wp2_with fail
              go_roundw
              case rel => exact ⟨more, ob', i + 1, by omega, rfl, by go_num, HNX, hG, F2⟩
              case measure => first | (simp [intOf]; done) | (simp [intOf]; omega)
            · by_cases hks : k < nk.length
              · have hks' : (k : Int) < nk.length := by omega
                obtain ⟨kb, ko, rfl, ck⟩ := (HU.out.fr hfr.out (fun b hb => by have := HNB.out b hb; simpa using this)).at1 (k := k) (u := .int .i64 (nk[k] : Nat)) (ints_at (List.getElem?_eq_getElem hks))
                have hyl := HXL.out nk[k] (List.getElem_mem hks)
                have HST := Lib.hid (hps.out.step HOI.out (by rw [HNK.out]; exact List.getElem?_eq_getElem hks) hyl)
                have hyl' : ((nk[k] : Nat) : Int) < is.length := by omega
                generalize nk[k] = y at *
                have hyo : y < ob'.length := by rw [hps.out.len]; exact hyl
                rw [List.getElem?_eq_getElem hyo] at HST
                have cy : wr.cell? ⟨og, y, none⟩ = some (.bool ob'[y]) := cell_of_heap hG.out (by simp [bools, hyo])
                have fy : wr.frozen? ⟨og, y, none⟩ = false := frozen_of_heap hG.out
                have HG9 : Hid ((wr.setCell ⟨og, y, none⟩ (.bool true)).heap[og]? = some (.cells (bools (ob'.set y true)).toArray 4 (0, 0))) := Lib.hid (by rw [heap_setCell hG.out, bools_setA])
                have F9 : Hid (Fr (only [og]) w5 (wr.setCell ⟨og, y, none⟩ (.bool true))) := Lib.hid (hfr.out.setCell _ _ (.inl (by simp)))
                generalize ob'[y] = oy at *
                clear hps hG hfr F2 hyo hio HOI
                cases more <;> cases oy
                · have HN := Lib.hid (HST.out true rfl)
                  clear HST
                  go_wp2_with fail
                  go_roundw
                  case rel => exact ⟨_, _, k + 1, by omega, rfl, by go_num, HN, HG9, F9⟩
                  case measure => first | (simp [intOf]; done) | (simp [intOf]; omega)
                · have HN := Lib.hid (HST.out false rfl)
                  clear HST
                  go_wp2_with fail
                  go_roundw
                  case rel => exact ⟨_, _, k + 1, by omega, rfl, by go_num, HN, HG9, F9⟩
                  case measure => first | (simp [intOf]; done) | (simp [intOf]; omega)
                all_goals
                  have HN := Lib.hid (HST.out true rfl)
                  clear HST
                  go_wp2_with fail
                  go_roundw
                  case rel => exact ⟨_, _, k + 1, by omega, rfl, by go_num, HN, HG9, F9⟩
                  case measure => first | (simp [intOf]; done) | (simp [intOf]; omega)
              · obtain rfl : k = nk.length := by omega
                have HNX : Hid (Pass (nx (fis is)) is.length ob more ob' (i + 1) 0) := Lib.hid (by rw [← HGG.out]; exact hps.out.next (fun _ => by rw [HNK.out]; exact Nat.le_refl _))
                clear hps hfr hf5
                go_wp2_with fail
                go_roundw
                case rel => exact ⟨more, ob', i + 1, by omega, rfl, by go_num, HNX, hG, F2⟩
                case measure => first | (simp [intOf]; done) | (simp [intOf]; omega)
        · obtain rfl : i = is.length := by omega
          have HFO := Lib.hid hps.out.found
          have HM : Hid (2 * cntF wr og + isT (.bool more) < 2 * ob.countP (fun b => !b) + 1) := Lib.hid (by
            rw [cntF_at hG.out]
            cases more with
            | true => have := hps.out.yes rfl; simp [isT]; omega
            | false => have := hps.out.no rfl; subst this; simp [isT])
          clear hps
          go_wp2_with fail
          go_roundw
          case rel => exact ⟨more, ob', rfl, HFO, hG, hfr⟩
          case measure => exact HMF.out _ _ HM.out

end Go.Proofs.YtgofiaodncemiaaGreat

/- The document's without (law11). -/
import Derived.Test.YtofahdjnejodjaaGreatR1
set_option linter.unusedSimpArgs false
set_option linter.unusedVariables false
set_option linter.unusedSectionVars false
set_option linter.unnecessarySimpa false
namespace Go.Proofs.YtofahdjnejodjaaGreat
open Go.RowKit Go.Flow Go.Sure

attribute [local go_sem] Program.isFuncB Program.isSliceB

variable {w w' w'' w0 : World}

theorem reads_blockR {b n : Nat} {xs : List Value} {t : TypeId} (h : w.heap[b]? = some (.cells xs.toArray t (0, 0))) (hn : xs.length = n) (hm : n ≤ 100000) : Reads w (.slice (some ⟨b, 0, none⟩) n n) 1 n xs := by
  refine .inr ⟨_, n, rfl, Nat.le_refl _, by unfold maxLen; omega, by omega, fun j u hu => ?_⟩
  rw [Addr.add_lit, Nat.zero_add]
  exact cell_of_heap h (by simpa using hu)
theorem set_keep {ob : List Bool} {i y : Nat} (h : ob[i]? = some true) : (ob.set y true)[i]? = some true := by
  rw [List.getElem?_set]
  split
  · rename_i e
    subst e
    rw [if_pos (List.getElem?_eq_some_iff.1 h).1]
  · exact h
/-- a pass over all: what it started from, has anything turned, what is reached by now, how far it is -/
structure Pass (g : Nat → List Nat) (n : Nat) (ob0 : List Bool) (more : Bool) (ob : List Bool) (i k : Nat) : Prop where
  len : ob.length = n
  snd : ∀ x, ob[x]? = some true → Flow.Reach g x
  zero : ob[0]? = some true
  yes : more = true → ob.countP (fun b => !b) < ob0.countP (fun b => !b)
  no : more = false → ob = ob0
  old : more = false → ∀ k', k' < i → ob[k']? = some true → ∀ x ∈ g k', ob[x]? = some true
  cur : more = false → ob[i]? = some true → ∀ j x, j < k → (g i)[j]? = some x → ob[x]? = some true
theorem Pass.step {g : Nat → List Nat} {n : Nat} {ob0 ob : List Bool} {more : Bool} {i k y : Nat} (h : Pass g n ob0 more ob i k) (hi : ob[i]? = some true) (hy : (g i)[k]? = some y) (hyn : y < n) (m2 : Bool) (hm : m2 = (more || !(ob[y]?).getD false)) : Pass g n ob0 m2 (ob.set y true) i (k + 1) := by
  have hyl : y < ob.length := by rw [h.len]; exact hyn
  have hry : Flow.Reach g y := (h.snd i hi).step (List.mem_of_getElem? hy)
  cases hoy : ob[y] with
  | true =>
    have hs : ob.set y true = ob := by
      apply List.ext_getElem? ; intro j
      rw [List.getElem?_set]
      split
      · rename_i e; subst e; simp [hyl, hoy]
      · rfl
    have hm2 : m2 = more := by rw [hm, List.getElem?_eq_getElem hyl, hoy]; simp
    rw [hs, hm2]
    refine ⟨h.len, h.snd, h.zero, h.yes, h.no, h.old, fun hf ht j x hj hx => ?_⟩
    by_cases e : j = k
    · subst e
      rw [hy] at hx
      obtain rfl := Option.some.inj hx
      rw [List.getElem?_eq_getElem hyl, hoy]
    · exact h.cur hf ht j x (by omega) hx
  | false =>
    have hm2 : m2 = true := by rw [hm, List.getElem?_eq_getElem hyl, hoy]; simp
    have hc := countP_set (ob := ob) (i := y) (by rw [List.getElem?_eq_getElem hyl, hoy])
    have hle : ob.countP (fun b => !b) ≤ ob0.countP (fun b => !b) := by
      cases more with
      | true => exact Nat.le_of_lt (h.yes rfl)
      | false => rw [h.no rfl]; exact Nat.le_refl _
    rw [hm2]
    refine ⟨by rw [List.length_set]; exact h.len, fun x hx => ?_, ?_, fun _ => by omega, fun e => (by cases e), fun e => (by cases e), fun e => (by cases e)⟩
    · rw [List.getElem?_set] at hx
      split at hx
      · rename_i e; subst e; exact hry
      · exact h.snd x hx
    · rw [List.getElem?_set]
      split
      · rename_i e; subst e; simp [hyl]
      · exact h.zero
theorem Pass.next {g : Nat → List Nat} {n : Nat} {ob0 ob : List Bool} {more : Bool} {i k : Nat} (h : Pass g n ob0 more ob i k) (hk : ob[i]? = some true → (g i).length ≤ k) : Pass g n ob0 more ob (i + 1) 0 :=
  ⟨h.len, h.snd, h.zero, h.yes, h.no, fun hf k' hk' ht x hx => by
    by_cases e : k' = i
    · subst e
      obtain ⟨j, hj, rfl⟩ := List.getElem_of_mem hx
      exact h.cur hf ht j _ (by have := hk ht; omega) (List.getElem?_eq_getElem hj)
    · exact h.old hf k' (by omega) ht x hx, fun _ _ j x hj => by omega⟩
/-- between the passes -/
structure Found (g : Nat → List Nat) (n : Nat) (more : Bool) (ob : List Bool) : Prop where
  len : ob.length = n
  snd : ∀ x, ob[x]? = some true → Flow.Reach g x
  zero : ob[0]? = some true
  cl : more = false → ∀ k, ob[k]? = some true → ∀ x ∈ g k, ob[x]? = some true
theorem Found.start {g : Nat → List Nat} {n : Nat} {more : Bool} {ob : List Bool} (h : Found g n more ob) : Pass g n ob false ob 0 0 :=
  ⟨h.len, h.snd, h.zero, fun e => (by cases e), fun _ => rfl, fun _ k' hk' => by omega, fun _ _ j x hj => by omega⟩
theorem Pass.found {g : Nat → List Nat} {n : Nat} {ob0 ob : List Bool} {more : Bool} (h : Pass g n ob0 more ob n 0) : Found g n more ob :=
  ⟨h.len, h.snd, h.zero, fun e k hk x hx => h.old e k (by have := (List.getElem?_eq_some_iff.1 hk).1; rw [h.len] at this; exact this) hk x hx⟩
theorem Found.all {g : Nat → List Nat} {n : Nat} {ob : List Bool} (h : Found g n false ob) (k : Nat) : ob[k]? = some true ↔ Flow.Reach g k :=
  ⟨h.snd k, fun hr => reach_least (S := fun k => ob[k]? = some true) h.zero (fun k x hk hx => h.cl rfl k hk x hx) hr⟩
theorem Found.first {g : Nat → List Nat} {n : Nat} (hn : 0 < n) : Found g n true ((List.replicate n false).set 0 true) :=
  ⟨by simp, fun x hx => by
    rw [List.getElem?_set] at hx
    split at hx
    · rename_i e; subst e; exact Flow.Reach.zero
    · rw [List.getElem?_replicate] at hx; split at hx <;> simp at hx, by rw [List.getElem?_set]; simp [hn], fun e => (by cases e)⟩
theorem bools_setA (ml : List Bool) (i : Nat) (b : Bool) : ((bools ml).toArray.setIfInBounds i (.bool b)) = (bools (ml.set i b)).toArray := by simp [bools, List.map_set]


/-- what without tells -/
def WayPost (w : World) (n : Nat) (g : Nat → List Nat) (e : Ending) (w' : World) : Prop :=
  ∃ u, ∃ ob : List Bool, e = .returned u ∧ ob.length = n ∧ Reads w' u 1 n (bools ob) ∧ (∀ b, u.ownBlock = some b → w.heap.size ≤ b) ∧ (∀ k, ob[k]? = some true ↔ Flow.Reach g k) ∧ Fr no w w'

set_option maxRecDepth 100000 in
set_option maxHeartbeats 8000000 in
theorem without_ok (w : World) (sa na : Option Addr) (c nc : Nat) (is : List Ix) (r : Nat) (hin : CodeIn w sa is) (hn : NxIn w (.slice na is.length nc) (nxs (fis is))) (hlen : is.length ≤ 1000) (F : Flows (fis is)) (hpos : 0 < is.length) :
    Calls Tryz.prog 44 #[.slice sa is.length c, .slice na is.length nc, .int .i64 r] w (WayPost w is.length (gr (nx (fis is)) (wrN is) r)) := by
  have HIN := Lib.hid hin
  have HN := Lib.hid hn
  have HXL : Hid (∀ k x, x ∈ nx (fis is) k → x < is.length) := Lib.hid (fun k x h => by have := nx_lt F h; rwa [fis_len] at this)
  have hpos' : (0 : Int) < is.length := by omega
  clear hin hn F
  go_enter Tryz.func44, Tryz.ntmps44
  go_upto_region 2 with ((refine wpList_make_any rfl (.tmp 12) (.tmp 12) 52 rfl w.heap.size 4 (.bool false) 1 Tryz.underlying52 Tryz.infoBool rfl .i64 .i64 is.length is.length is.length rfl rfl rfl rfl (by omega) (by unfold maxLen; omega) (Nat.le_refl _) ?_); intro w3 ho3 hg3)
  have HG3 : Hid (w3.heap[w.heap.size]? = some (.cells (bools (List.replicate is.length false)).toArray 4 (0, 0))) := Lib.hid (by rw [bools_rep]; exact owns_full ho3)
  have q3 := (Fr.refl no w).grown hg3 (by intro k hk; cases hk)
  obtain ⟨og, hog⟩ : ∃ g, g = w.heap.size := ⟨_, rfl⟩
  have HOG := Lib.hid hog
  rw [← hog] at HG3 ⊢
  have c0 : w3.cell? ⟨og, 0, none⟩ = some (.bool false) := cell_of_heap HG3.out (by simp [bools, hpos])
  have f0 : w3.frozen? ⟨og, 0, none⟩ = false := frozen_of_heap HG3.out
  have R3 := Lib.hid q3
  clear ho3 hg3 q3 hog
  go_upto_region 3 with fail
  have HG4 : Hid ((w3.setCell ⟨og, 0, none⟩ (.bool true)).heap[og]? = some (.cells (bools ((List.replicate is.length false).set 0 true)).toArray 4 (0, 0))) := Lib.hid (by rw [heap_setCell HG3.out, bools_setA])
  have R4 := Lib.hid (R3.out.setCell ⟨og, 0, none⟩ (.bool true) (.inr (by have := HOG.out; simp; omega)))
  have HF0 : Hid (Found (gr (nx (fis is)) (wrN is) r) is.length true ((List.replicate is.length false).set 0 true)) := Lib.hid (Found.first hpos)
  clear c0 f0 HG3 R3
  generalize w3.setCell ⟨og, 0, none⟩ (.bool true) = w4 at *
  go_wp2_with fail
  go_loopw [8] (fun x wr => ∃ (more : Bool) (ob : List Bool), x = .bool more ∧ Hid (Found (gr (nx (fis is)) (wrN is) r) is.length more ob) ∧ Hid (wr.heap[og]? = some (.cells (bools ob).toArray 4 (0, 0))) ∧ Hid (Fr no w wr)) (fun x wr => 2 * cntF wr og + isT x)
  case atStart => exact ⟨true, _, rfl, HF0, HG4, R4⟩
  case round =>
    clear HF0 HG4 R4
    obtain ⟨more, ob, rfl, hfo, hG, hfr⟩ := hrel
    cases more
    · have HQ := Lib.hid (fun k => hfo.out.all k)
      have HL : Hid (ob.length = is.length) := Lib.hid hfo.out.len
      have HR : Hid (Reads wr (.slice (some ⟨og, 0, none⟩) is.length is.length) 1 is.length (bools ob)) := Lib.hid (reads_blockR hG.out (by simp [bools, hfo.out.len]) (by omega))
      have F := Lib.hid hfr.out
      clear hfo hG hfr
      go_wp2_with fail
      go_ret
      exact ⟨_, ob, rfl, HL.out, HR.out, fun b hb => by have := HOG.out; have e : og = b := Option.some.inj hb; omega, HQ.out, F.out⟩
    · have HP0 : Hid (Pass (gr (nx (fis is)) (wrN is) r) is.length ob false ob 0 0) := Lib.hid hfo.out.start
      have HMF : Hid (∀ (w' : World) (v : Value), 2 * cntF w' og + isT v < 2 * ob.countP (fun b => !b) + 1 → 2 * cntF w' og + isT v < 2 * cntF wr og + isT (.bool true)) := Lib.hid (fun w' v h => by rw [cntF_at hG.out]; simpa [isT] using h)
      go_wp2_with fail
      clear hfo
      go_loopw [8, 9] (fun x y wr => ∃ (more : Bool) (ob' : List Bool) (i : Nat), i ≤ is.length ∧ x = .bool more ∧ y = .int .i64 i ∧ Hid (Pass (gr (nx (fis is)) (wrN is) r) is.length ob more ob' i 0) ∧ Hid (wr.heap[og]? = some (.cells (bools ob').toArray 4 (0, 0))) ∧ Hid (Fr no w wr)) (fun _ y _ => (is.length - intOf y).toNat)
      case atStart => exact ⟨false, _, 0, by omega, rfl, rfl, HP0, hG, hfr⟩
      case round =>
        clear HP0 hG hfr
        obtain ⟨more, ob', i, hi, rfl, rfl, hps, hG, hfr⟩ := hrel
        by_cases his : i < is.length
        · have his' : (i : Int) < is.length := by omega
          have hio : i < ob'.length := by rw [hps.out.len]; exact his
          have co : wr.cell? ⟨og, i, none⟩ = some (.bool ob'[i]) := cell_of_heap hG.out (by simp [bools, hio])
          have HOI : Hid (ob'[i]? = some ob'[i]) := Lib.hid (List.getElem?_eq_getElem hio)
          generalize ob'[i] = oi at *
          cases oi
          · have HNX : Hid (Pass (gr (nx (fis is)) (wrN is) r) is.length ob more ob' (i + 1) 0) := Lib.hid (hps.out.next (fun h => by rw [HOI.out] at h; cases h))
            clear hps
            go_wp2_with fail
            go_roundw
            case rel => exact ⟨more, ob', i + 1, by omega, rfl, by go_num, HNX, hG, hfr⟩
            case measure => first | (simp [intOf]; done) | (simp [intOf]; omega)
          · obtain ⟨b1, o1, u1, rfl, h1⟩ := HIN.out.fr hfr.out i his
            obtain ⟨i1, hi1⟩ : ∃ j, j = is[i] := ⟨_, rfl⟩
            rw [← hi1] at h1
            have HWR : Hid (wrN is i = wrI i1) := Lib.hid (by rw [wrN_at is i his, hi1])
            obtain ⟨ua, uc, rfl⟩ := h1.args.shape
            obtain ⟨c0, c1, c2, c3, c4, c5⟩ := h1.six
            have HWT := Lib.hid (fun w => refwrites_ok w i1.o i1.A i1.B i1.C i1.N (.slice ua i1.l.length uc))
            rw [show (fieldsOf [i1.A, i1.B, i1.C] (sh i1.o)).2.2 = wrI i1 from rfl] at HWT
            unfold insV at HWT
            clear hi1 h1
            generalize wrI i1 = wi at *
            go_wp2_with fail
            refine (HWT.out _).mono ?_
            rintro e w5 ⟨rfl, r5⟩
            have hG5 := Lib.hid (r5.heap hG.out (by simp))
            have hf5 := Lib.hid (hfr.out.trans r5)
            clear r5 hG hfr c0 c1 c2 c3 c4 c5 HWT co
            by_cases hwi : wi = (r : Int)
            · have ew : (wi == (r : Int)) = true := by simp [hwi]
              have HNX : Hid (Pass (gr (nx (fis is)) (wrN is) r) is.length ob more ob' (i + 1) 0) := Lib.hid (hps.out.next (fun _ => by
                rw [show gr (nx (fis is)) (wrN is) r i = [] from by unfold gr; rw [if_pos (HWR.out.trans hwi)]]
                simp))
              clear hps hwi
              go_wp2_with fail
              go_roundw
              case rel => exact ⟨more, ob', i + 1, by omega, rfl, by go_num, HNX, hG5, hf5⟩
              case measure => first | (simp [intOf]; done) | (simp [intOf]; omega)
            · have ew : (wi == (r : Int)) = false := by simpa using hwi
              have HGI : Hid (gr (nx (fis is)) (wrN is) r i = nx (fis is) i) := Lib.hid (by unfold gr; rw [if_neg (by rw [HWR.out]; exact hwi)])
              have hnf := nx_few (fis is) i
              obtain ⟨rv, h1, h2⟩ := HN.out
              rw [nxs_len] at h1
              have hl := h1.len
              have hk : i < rv.length := by omega
              obtain ⟨nb, no', en, e2⟩ := h1.at1 (k := i) (u := rv[i]) (List.getElem?_eq_getElem hk)
              have hrv := h2 i _ _ (List.getElem?_eq_getElem hk) (nxs_at is i his)
              generalize rv[i] = v at *
              obtain ⟨va, vc, rfl⟩ := hrv.shape
              subst en
              have HCN := Lib.hid (hf5.out.cell e2 (by simp))
              have hnb : nb < w.heap.size := by simpa using World.block_lt_of_cell? w _ e2
              have HNB : Hid (nb ≠ og) := Lib.hid (by have := HOG.out; omega)
              have HVB : Hid (0 < (nx (fis is) i).length → ∀ b, (Value.slice va (nx (fis is) i).length vc).ownBlock = some b → b ≠ og) := Lib.hid (fun hp b hb => by
                obtain ⟨kb, ko, e, ck⟩ := hrv.at1 (k := 0) (u := .int .i64 ((nx (fis is) i)[0] : Nat)) (ints_at (List.getElem?_eq_getElem hp))
                subst e
                have h3 : kb < w.heap.size := by simpa using World.block_lt_of_cell? w _ ck
                have h0 := HOG.out
                have e : kb = b := Option.some.inj hb
                omega)
              have HRV := Lib.hid (hrv.fr hf5.out (by simp))
              have HXI : Hid (∀ x ∈ nx (fis is) i, x < is.length) := Lib.hid (HXL.out i)
              clear h1 h2 hl hk hrv e2 hwi hnb
              generalize nx (fis is) i = nk at *
              go_wp2_with fail
              go_loopw [8, 10] (fun x y wr => ∃ (more : Bool) (ob' : List Bool) (k : Nat), k ≤ nk.length ∧ x = .bool more ∧ y = .int .i64 k ∧ Hid (Pass (gr (nx (fis is)) (wrN is) r) is.length ob more ob' i k) ∧ Hid (ob'[i]? = some true) ∧ Hid (wr.heap[og]? = some (.cells (bools ob').toArray 4 (0, 0))) ∧ Hid (Fr (only [og]) w5 wr)) (fun _ y _ => (nk.length - intOf y).toNat)
              case atStart => exact ⟨more, ob', 0, by omega, rfl, rfl, hps, HOI, hG5, Lib.hid (Fr.refl _ _)⟩
              case round =>
                clear hps hG5 HOI
                obtain ⟨more, ob', k, hk, rfl, rfl, hps, HOI, hG, hfr⟩ := hrel
                have F2 := Lib.hid (hf5.out.trans' hfr.out (fun b hb _ => by have := HOG.out; simp at hb; omega))
                have cn := hfr.out.cell HCN.out (by have := HNB.out; simpa using this)
                by_cases hks : k < nk.length
                · have hks' : (k : Int) < nk.length := by omega
                  obtain ⟨kb, ko, rfl, ck⟩ := (HRV.out.fr hfr.out (fun b hb => by have := HVB.out (by omega) b hb; simpa using this)).at1 (k := k) (u := .int .i64 (nk[k] : Nat)) (ints_at (List.getElem?_eq_getElem hks))
                  have hyl := HXI.out nk[k] (List.getElem_mem hks)
                  have HST := Lib.hid (hps.out.step HOI.out (by rw [HGI.out]; exact List.getElem?_eq_getElem hks) hyl)
                  have hyl' : ((nk[k] : Nat) : Int) < is.length := by omega
                  generalize nk[k] = y at *
                  have hyo : y < ob'.length := by rw [hps.out.len]; exact hyl
                  rw [List.getElem?_eq_getElem hyo] at HST
                  have cy : wr.cell? ⟨og, y, none⟩ = some (.bool ob'[y]) := cell_of_heap hG.out (by simp [bools, hyo])
                  have fy : wr.frozen? ⟨og, y, none⟩ = false := frozen_of_heap hG.out
                  have HG9 : Hid ((wr.setCell ⟨og, y, none⟩ (.bool true)).heap[og]? = some (.cells (bools (ob'.set y true)).toArray 4 (0, 0))) := Lib.hid (by rw [heap_setCell hG.out, bools_setA])
                  have F9 : Hid (Fr (only [og]) w5 (wr.setCell ⟨og, y, none⟩ (.bool true))) := Lib.hid (hfr.out.setCell _ _ (.inl (by simp)))
                  have HOK : Hid ((ob'.set y true)[i]? = some true) := Lib.hid (set_keep HOI.out)
                  have HSAME : Hid (ob'[y] = true → ob'.set y true = ob') := Lib.hid (fun h => by
                    apply List.ext_getElem?; intro j
                    rw [List.getElem?_set]
                    split
                    · rename_i e; subst e; simp [hyo, h]
                    · rfl)
                  generalize ob'[y] = oy at *
                  cases oy
                  · have HN := Lib.hid (HST.out true (by simp))
                    clear HST HSAME hps hfr F2 hyo
                    go_wp2_with fail
                    go_roundw
                    case rel => exact ⟨_, _, k + 1, by omega, rfl, by go_num, HN, HOK, HG9, F9⟩
                    case measure => first | (simp [intOf]; done) | (simp [intOf]; omega)
                  · have HN := Lib.hid (HST.out more (by simp))
                    rw [HSAME.out rfl] at HN
                    clear HST HSAME hps F2 hyo HG9 F9 HOK
                    go_wp2_with fail
                    go_roundw
                    case rel => exact ⟨_, _, k + 1, by omega, rfl, by go_num, HN, HOI, hG, hfr⟩
                    case measure => first | (simp [intOf]; done) | (simp [intOf]; omega)
                · obtain rfl : k = nk.length := by omega
                  have HNX : Hid (Pass (gr (nx (fis is)) (wrN is) r) is.length ob more ob' (i + 1) 0) := Lib.hid (hps.out.next (fun _ => by rw [HGI.out]; exact Nat.le_refl _))
                  clear hps hfr hf5
                  go_wp2_with fail
                  go_roundw
                  case rel => exact ⟨more, ob', i + 1, by omega, rfl, by go_num, HNX, hG, F2⟩
                  case measure => first | (simp [intOf]; done) | (simp [intOf]; omega)
        · obtain rfl : i = is.length := by omega
          have HFO := Lib.hid hps.out.found
          have HM : Hid (2 * cntF wr og + isT (.bool more) < 2 * ob.countP (fun b => !b) + 1) := Lib.hid (by
            rw [cntF_at hG.out]
            cases more with
            | true => have := hps.out.yes rfl; simp [isT]; omega
            | false => have := hps.out.no rfl; subst this; simp [isT])
          clear hps
          go_wp2_with fail
          go_roundw
          case rel => exact ⟨more, ob', rfl, HFO, hG, hfr⟩
          case measure => exact HMF.out _ _ HM.out

end Go.Proofs.YtofahdjnejodjaaGreat

/- FlowClosed's walk. -/
import Derived.Test.YtgofiaodncemiaaFk
set_option linter.unusedSimpArgs false
set_option linter.unusedVariables false
set_option linter.unusedSectionVars false
set_option linter.unnecessarySimpa false
namespace Go.Proofs.Ytgofiaodncemiaa
open Go.RowKit Go.Flow

attribute [local go_sem] Program.isFuncB Program.isSliceB

variable {w w' w'' w0 : World}

/-! ### what is reached in so many steps -/
def lv (g : Nat → List Nat) (n : Nat) : Nat → Nat → Bool
  | 0, x => x == 0
  | t + 1, x => lv g n t x || (List.range n).any (fun k => lv g n t k && (g k).contains x)
theorem lv_up (g : Nat → List Nat) (n t x : Nat) (h : lv g n t x = true) : lv g n (t + 1) x = true := by
  unfold lv; rw [h]; rfl
theorem lv_le (g : Nat → List Nat) (n s x : Nat) (h : lv g n s x = true) : ∀ t, s ≤ t → lv g n t x = true := by
  intro t ht
  induction t with
  | zero => obtain rfl : s = 0 := by omega
            exact h
  | succ t ih =>
    by_cases e : s = t + 1
    · subst e; exact h
    · exact lv_up g n t x (ih (by omega))
theorem lv_step (g : Nat → List Nat) (n t k x : Nat) (hk : k < n) (h : lv g n t k = true) (hx : x ∈ g k) : lv g n (t + 1) x = true := by
  unfold lv
  rw [Bool.or_eq_true]
  exact .inr (List.any_eq_true.2 ⟨k, List.mem_range.2 hk, by simp [h, hx]⟩)
theorem lv_zero (g : Nat → List Nat) (n : Nat) : ∀ t, lv g n t 0 = true := fun t => lv_le g n 0 0 rfl t (Nat.zero_le _)
theorem countP_le_of {l : List Nat} {p q : Nat → Bool} (h : ∀ x ∈ l, p x = true → q x = true) : l.countP p ≤ l.countP q ∧ (l.countP p = l.countP q → ∀ x ∈ l, q x = true → p x = true) := by
  induction l with
  | nil => simp
  | cons a l ih =>
    obtain ⟨h1, h2⟩ := ih (fun x hx => h x (by simp [hx]))
    have ha := h a (by simp)
    simp only [List.countP_cons]
    cases hp : p a with
    | true =>
      rw [ha hp]
      simp only [if_true]
      refine ⟨by omega, fun he x hx hq => ?_⟩
      rcases List.mem_cons.1 hx with rfl | hx
      · exact hp
      · exact h2 (by omega) x hx hq
    | false =>
      cases hq : q a with
      | true =>
        simp only [if_true, Bool.false_eq_true, if_false]
        exact ⟨by omega, fun he => by omega⟩
      | false =>
        simp only [Bool.false_eq_true, if_false]
        refine ⟨by omega, fun he x hx hqx => ?_⟩
        rcases List.mem_cons.1 hx with rfl | hx
        · rw [hq] at hqx; cases hqx
        · exact h2 (by omega) x hx hqx
/-- in as many steps as there are nodes all is reached -/
theorem lv_all (g : Nat → List Nat) (n : Nat) (hn : 0 < n) (hg : ∀ k x, k < n → x ∈ g k → x < n) (x : Nat) (h : Flow.Reach g x) : lv g n n x = true := by
  have key : ∀ t, (∃ s, s < t ∧ ∀ x, x < n → lv g n (s + 1) x = true → lv g n s x = true) ∨ t + 1 ≤ (List.range n).countP (lv g n t) := by
    intro t
    induction t with
    | zero =>
      refine .inr ?_
      have : 0 < (List.range n).countP (lv g n 0) := List.countP_pos_iff.2 ⟨0, List.mem_range.2 hn, rfl⟩
      omega
    | succ t ih =>
      rcases ih with ⟨s, h1, h2⟩ | ih
      · exact .inl ⟨s, by omega, h2⟩
      · obtain ⟨h1, h2⟩ := countP_le_of (l := List.range n) (p := lv g n t) (q := lv g n (t + 1)) (fun x _ => lv_up g n t x)
        by_cases he : (List.range n).countP (lv g n t) = (List.range n).countP (lv g n (t + 1))
        · exact .inl ⟨t, by omega, fun x hx => h2 he x (List.mem_range.2 hx)⟩
        · exact .inr (by omega)
  rcases key n with ⟨s, hs, hc⟩ | hk
  · have : lv g n s x = true ∧ x < n := by
      refine reach_least (S := fun x => lv g n s x = true ∧ x < n) ⟨lv_zero g n s, hn⟩ (fun k y hk hy => ?_) h
      have hy' := hg k y hk.2 hy
      exact ⟨hc y hy' (lv_step g n s k y hk.2 hk.1 hy), hy'⟩
    exact lv_le g n s x this.1 n (by omega)
  · have := List.countP_le_length (p := lv g n n) (l := List.range n)
    rw [List.length_range] at this
    omega

/-- what has been made whole: all of level t, and what follows the first k of it -/
structure Whole (g : Nat → List Nat) (n t k j : Nat) (ml : List Bool) : Prop where
  len : ml.length = n
  up : ∀ x, x < n → lv g n t x = true → ml[x]? = some true
  fl : ∀ k', k' < k → lv g n t k' = true → ∀ x ∈ g k', ml[x]? = some true
  at' : lv g n t k = true → ∀ j', j' < j → ∀ x, (g k)[j']? = some x → ml[x]? = some true
theorem set_keeps {ml : List Bool} {x y : Nat} {b : Bool} (h : ml[x]? = some true) (hb : ml[y]? = some true → b = true) : (ml.set y b)[x]? = some true := by
  rw [List.getElem?_set]
  split
  · rename_i e; subst e
    have := (List.getElem?_eq_some_iff.1 h).1
    simp [this, hb h]
  · exact h
theorem Whole.step {g : Nat → List Nat} {n t k j y : Nat} {ml : List Bool} (h : Whole g n t k j ml) (hk : k < n) (hy : (g k)[j]? = some y) (hyn : y < n) (b : Bool) (hb : b = ((ml[y]?).getD false || (ml[k]?).getD false)) : Whole g n t k (j + 1) (ml.set y b) := by
  have hb1 : ml[y]? = some true → b = true := fun e => by rw [hb, e]; rfl
  refine ⟨by rw [List.length_set]; exact h.len, fun x hx hl => set_keeps (h.up x hx hl) hb1, fun k' hk' hl x hx => set_keeps (h.fl k' hk' hl x hx) hb1, fun hl j' hj x hx => ?_⟩
  by_cases e : j' = j
  · subst e
    rw [hy] at hx
    obtain rfl := Option.some.inj hx
    have h1 := h.up k hk hl
    have : b = true := by rw [hb, h1]; simp
    rw [List.getElem?_set]
    simp [h.len, hyn, this]
  · exact set_keeps (h.at' hl j' (by omega) x hx) hb1
theorem Whole.nextK {g : Nat → List Nat} {n t k : Nat} {ml : List Bool} (h : Whole g n t k (g k).length ml) : Whole g n t (k + 1) 0 ml :=
  ⟨h.len, h.up, fun k' hk' hl x hx => by
    by_cases e : k' = k
    · subst e
      obtain ⟨j, hj, hx⟩ := List.getElem_of_mem hx
      exact h.at' hl j hj x (by rw [List.getElem?_eq_getElem hj, hx])
    · exact h.fl k' (by omega) hl x hx, fun _ j' hj => by omega⟩
theorem Whole.nextT {g : Nat → List Nat} {n t : Nat} {ml : List Bool} (h : Whole g n t n 0 ml) : Whole g n (t + 1) 0 0 ml := by
  refine ⟨h.len, fun x hx hl => ?_, fun k' hk' => by omega, fun _ j' hj => by omega⟩
  unfold lv at hl
  rw [Bool.or_eq_true] at hl
  rcases hl with hl | hl
  · exact h.up x hx hl
  · obtain ⟨k, hk, hc⟩ := List.any_eq_true.1 hl
    rw [Bool.and_eq_true] at hc
    exact h.fl k (List.mem_range.1 hk) hc.1 x (by simpa using hc.2)
theorem Whole.start {g : Nat → List Nat} {n : Nat} {ml : List Bool} (hl : ml.length = n) (h0 : ml[0]? = some true) : Whole g n 0 0 0 ml :=
  ⟨hl, fun x _ h => by unfold lv at h; obtain rfl : x = 0 := by simpa using h
                       exact h0, fun k' hk' => by omega, fun _ j' hj => by omega⟩


theorem bools_set (ml : List Bool) (i : Nat) (b : Bool) : ((bools ml).toArray.setIfInBounds i (.bool b)) = (bools (ml.set i b)).toArray := by simp [bools, List.map_set]

set_option maxRecDepth 100000 in
set_option maxHeartbeats 16000000 in
theorem closed10_ok (w : World) (sa : Option Addr) (c : Nat) (is : List Ix) (hin : CodeIn w sa is) (hlen : is.length ≤ maxLen) (hargs : ∀ i ∈ is, i.l.length ≤ maxLen) (hN : ∀ i ∈ is, rng i.N)
    (sv : Value) (st : List Bool) (hst : Reads w sv 1 st.length (bools st)) (hstl : st.length ≤ maxLen) :
    Calls Try.prog 3 #[.slice sa is.length c, sv] w fun e w' => e = .returned (.bool true) ∧ Fr no w w' := by
  obtain ⟨sva, svc, rfl⟩ := hst.shape
  have KN := Lib.hid (awake10_ok w)
  have HIN := Lib.hid hin
  have HST := Lib.hid hst
  have HLO := Lib.hid (fun w2 (r : Fr no w w2) => long10_ok w2 sa c is (hin.fr r) hlen hargs)
  have HNN := Lib.hid hN
  unfold maxLen at hlen hstl
  clear hin hargs hN hst
  go_enter Try.func3, Try.ntmps3
  go_wp2_with fail
  refine KN.out.mono ?_
  rintro e w2 ⟨rfl, r2⟩
  have R2 := Lib.hid r2
  have HL2 := Lib.hid (HLO.out w2 r2)
  clear r2 KN HLO
  go_wp2_with fail
  refine HL2.out.mono ?_
  rintro e w4 ⟨q, rfl, hq, r4⟩
  have R4 := Lib.hid (R2.out.trans r4)
  have HQ := Lib.hid hq
  clear hq r4 HL2 R2
  cases q
  case true =>
    go_wp2_with fail
    go_ret
    exact ⟨rfl, R4.out⟩
  have hl60 := (HQ.out rfl).1
  have HA20 := Lib.hid (HQ.out rfl).2
  have HRE4 := Lib.hid (freached_ok w4 sa c is (HIN.out.fr R4.out) (by omega) (fun i hi => by have := HA20.out i hi; omega) HNN.out)
  have HNX := Lib.hid (fun w5 (r : Fr no w w5) => fnext_ok w5 sa c is (HIN.out.fr r) (by omega) (fun i hi => by have := HA20.out i hi; omega) HNN.out)
  have HFL : Hid (flowCk is = 0 → Flows (fis is)) := Lib.hid flowCk_flows
  clear HQ HIN HA20 HNN
  generalize flowCk is = ck at *
  go_wp2_with fail
  refine HRE4.out.mono ?_
  rintro e w5 ⟨ur, rfl, hbad, hgood, r5⟩
  have R5 := Lib.hid (R4.out.trans r5)
  have HBAD := Lib.hid hbad
  have HGOOD := Lib.hid hgood
  have HNX5 := Lib.hid (HNX.out w5 R5.out)
  clear r5 hbad hgood HRE4 R4 HNX
  have hck : (ck != ck) = false := by simp
  by_cases hj : ck = 0
  case neg =>
    obtain rfl := HBAD.out hj
    have e1 : (ck != 0) = true := by simpa using hj
    clear hj HGOOD HBAD
    go_wp2_with fail
    refine HNX5.out.mono ?_
    rintro e w6 ⟨un, rfl, -, -, r6⟩
    have R6 := Lib.hid (R5.out.trans r6)
    clear r6
    go_wp2_with fail
    go_ret
    exact ⟨by rfl, R6.out⟩
  obtain ⟨ob, hol, hor, hoq⟩ := HGOOD.out hj
  have HF := Lib.hid (HFL.out hj)
  subst hj
  clear HBAD HGOOD HFL hck
  rw [fis_len] at hol hor
  obtain ⟨ra, rc, rfl⟩ := hor.shape
  have HOR := Lib.hid hor
  have HOQ := Lib.hid hoq
  have HOL := Lib.hid hol
  clear hor hoq hol
  have hck : ((0 : Int) != 0) = false := rfl
  go_wp2_with fail
  refine HNX5.out.mono ?_
  rintro e w6 ⟨un, rfl, -, hgood, r6⟩
  have HN6 := Lib.hid (hgood rfl).nx
  have HR6 := Lib.hid (HOR.out.fr r6 (by simp))
  have R6 := Lib.hid (R5.out.trans r6)
  clear r6 hgood HNX5 HOR R5
  have hsh : ∃ a c', un = .slice a is.length c' := by
    obtain ⟨a, c', rfl⟩ := HN6.out.shape
    exact ⟨a, c', by rw [nxs_len]⟩
  obtain ⟨na, nc, rfl⟩ := hsh
  have hpos : 0 < is.length := by have := HF.out.pos; rw [fis_len] at this; exact this
  have hpos' : (0 : Int) < is.length := by omega
  have HST6 := Lib.hid (HST.out.fr R6.out (by simp))
  have HXL : Hid (∀ k x, k < is.length → x ∈ nx (fis is) k → x < is.length) := Lib.hid (fun k x _ h => by have := nx_lt HF.out h; rwa [fis_len] at this)
  have HLA : Hid (∀ x, Flow.Reach (nx (fis is)) x → lv (nx (fis is)) is.length is.length x = true) := Lib.hid (fun x h => lv_all _ _ hpos HXL.out x h)
  clear HST
  obtain ⟨rb, ro, rfl, cr0⟩ := HR6.out.at1 (k := 0) (u := .bool true) (by
    have := (HOQ.out 0).2 Flow.Reach.zero
    simp [bools, this])
  rw [Nat.add_zero] at cr0
  have ell : ((is.length : Int) != (is.length : Int)) = false := by simp
  go_upto_region 13 with ((refine wpList_make_any rfl (.tmp 61) (.tmp 61) 23 rfl w6.heap.size 4 (.bool false) 1 Try.underlying23 Try.infoBool rfl .i64 .i64 is.length is.length is.length rfl rfl rfl rfl (by omega) (by unfold maxLen; omega) (Nat.le_refl _) ?_); intro w7 ho7 hg7)
  obtain ⟨mb, hmb⟩ : ∃ g, g = w6.heap.size := ⟨_, rfl⟩
  have HMB := Lib.hid hmb
  have HG7 : Hid (w7.heap[w6.heap.size]? = some (.cells (bools (List.replicate is.length false)).toArray 4 (0, 0))) := Lib.hid (by rw [bools_rep]; exact owns_full ho7)
  have q7 := (Fr.refl no w6).grown hg7 (by intro k hk; cases hk)
  have R7 := Lib.hid q7
  rw [← hmb] at HG7 ⊢
  clear ho7 hg7 q7 hmb cr0 ell hck
  go_wp2_with fail
  go_loopw [11] (fun x wr => ∃ (i : Nat) (ml : List Bool), i ≤ is.length ∧ x = .int .i64 i ∧ Hid (ml.length = is.length) ∧ Hid (0 < i → ml[0]? = some true) ∧ Hid (wr.heap[mb]? = some (.cells (bools ml).toArray 4 (0, 0))) ∧ Hid (Fr no w6 wr)) (fun x _ => (is.length - intOf x).toNat)
  case atStart => exact ⟨0, _, by omega, rfl, Lib.hid (by simp), Lib.hid (fun h => by omega), HG7, R7⟩
  case round =>
    clear HG7 R7
    obtain ⟨i, ml, hi, rfl, hml, hz, hG, hfr⟩ := hrel
    by_cases his : i < is.length
    · have his' : (i : Int) < is.length := by omega
      have him : i < ml.length := by rw [hml.out]; exact his
      have cg : wr.cell? ⟨mb, i, none⟩ = some (.bool ml[i]) := cell_of_heap hG.out (by simp [bools, him])
      have fg : wr.frozen? ⟨mb, i, none⟩ = false := frozen_of_heap hG.out
      generalize ml[i] = mi at *
      have HNW : ∀ b : Bool, Hid ((wr.setCell ⟨mb, i, none⟩ (.bool b)).heap[mb]? = some (.cells (bools (ml.set i b)).toArray 4 (0, 0))) ∧ Hid (Fr no w6 (wr.setCell ⟨mb, i, none⟩ (.bool b))) ∧ Hid ((ml.set i b).length = is.length) := fun b =>
        ⟨Lib.hid (by rw [heap_setCell hG.out, bools_set]), Lib.hid (hfr.out.setCell _ _ (.inr (by have := HMB.out; simp; omega))), Lib.hid (by rw [List.length_set]; exact hml.out)⟩
      have HNW2 := Lib.hid HNW
      have HZ2 : Hid (∀ b : Bool, (i = 0 → b = true) → (ml.set i b)[0]? = some true) := Lib.hid (fun b hb => by
        rw [List.getElem?_set]
        by_cases h0 : i = 0
        · subst h0; simp [him, hb rfl]
        · rw [if_neg h0]; exact hz.out (by omega))
      clear HNW
      by_cases h0 : i = 0
      · have e1 : ((i : Int) == 0) = true := by simp [h0]
        obtain ⟨n1, n2, n3⟩ := HNW2.out true
        have n4 := Lib.hid (HZ2.out true (fun _ => rfl))
        clear h0 hz hG hfr hml HNW2 HZ2
        go_wp2_with fail
        go_roundw
        case rel => exact ⟨i + 1, _, by omega, by go_num, n3, Lib.hid (fun _ => n4.out), n1, n2⟩
        case measure => first | (simp [intOf]; done) | (simp [intOf]; omega)
      have e1 : ((i : Int) == 0) = false := by simp; omega
      by_cases hs : i < st.length
      · have hs' : (i : Int) < st.length := by omega
        obtain ⟨sb, so, rfl, cs⟩ := (HST6.out.fr hfr.out (by simp)).at1 (k := i) (u := .bool st[i]) (by simp [bools, hs])
        generalize st[i] = b at *
        obtain ⟨n1, n2, n3⟩ := HNW2.out b
        have n4 := Lib.hid (HZ2.out b (fun h => absurd h h0))
        clear h0 hz hG hfr hml HNW2 HZ2
        go_wp2_with fail
        go_roundw
        case rel => exact ⟨i + 1, _, by omega, by go_num, n3, Lib.hid (fun _ => n4.out), n1, n2⟩
        case measure => first | (simp [intOf]; done) | (simp [intOf]; omega)
      · have hs' : ¬ (i : Int) < st.length := by omega
        obtain ⟨n1, n2, n3⟩ := HNW2.out false
        have n4 := Lib.hid (HZ2.out false (fun h => absurd h h0))
        clear h0 hz hG hfr hml HNW2 HZ2
        go_wp2_with fail
        go_roundw
        case rel => exact ⟨i + 1, _, by omega, by go_num, n3, Lib.hid (fun _ => n4.out), n1, n2⟩
        case measure => first | (simp [intOf]; done) | (simp [intOf]; omega)
    · obtain rfl : i = is.length := by omega
      have HW0 : Hid (Whole (nx (fis is)) is.length 0 0 0 ml) := Lib.hid (Whole.start hml.out (hz.out hpos))
      have HG8 := hG
      have R8 := hfr
      clear hz hml hG hfr
      go_wp2_with fail
      go_loopw [12] (fun x wr => ∃ (t : Nat) (ml : List Bool), t ≤ is.length ∧ x = .int .i64 t ∧ Hid (Whole (nx (fis is)) is.length t 0 0 ml) ∧ Hid (wr.heap[mb]? = some (.cells (bools ml).toArray 4 (0, 0))) ∧ Hid (Fr no w6 wr)) (fun x _ => (is.length - intOf x).toNat)
      case atStart => exact ⟨0, _, by omega, rfl, HW0, HG8, R8⟩
      case round =>
        clear HW0 HG8 R8
        obtain ⟨t, ml, ht, rfl, hwh, hG, hfr⟩ := hrel
        by_cases hts : t < is.length
        · have hts' : (t : Int) < is.length := by omega
          go_wp2_with fail
          go_loopw [13] (fun x wr => ∃ (k : Nat) (ml : List Bool), k ≤ is.length ∧ x = .int .i64 k ∧ Hid (Whole (nx (fis is)) is.length t k 0 ml) ∧ Hid (wr.heap[mb]? = some (.cells (bools ml).toArray 4 (0, 0))) ∧ Hid (Fr no w6 wr)) (fun x _ => (is.length - intOf x).toNat)
          case atStart => exact ⟨0, _, by omega, rfl, hwh, hG, hfr⟩
          case round =>
            clear hwh hG hfr
            obtain ⟨k, ml, hk, rfl, hwh, hG, hfr⟩ := hrel
            by_cases hks : k < is.length
            · have hks' : (k : Int) < is.length := by omega
              obtain ⟨nb, no', va, vc, rfl, crow0, hrow⟩ := HN6.out.at_ k (by rw [nxs_len]; exact hks)
              have hnk : (nxs (fis is))[k]'(by rw [nxs_len]; exact hks) = nx (fis is) k := by simp [nxs]
              rw [hnk] at crow0 hrow
              have HROW := Lib.hid hrow
              have HCR := Lib.hid crow0
              have HNE := Lib.hid (fun j ml (h : Whole (nx (fis is)) is.length t k j ml) y (hy : (nx (fis is) k)[j]? = some y) (hyn : y < is.length) b hb => h.step hks hy hyn b hb)
              have HNK := Lib.hid (fun ml (h : Whole (nx (fis is)) is.length t k (nx (fis is) k).length ml) => h.nextK)
              have HXK := Lib.hid (fun x (h : x ∈ nx (fis is) k) => HXL.out k x hks h)
              have hnf := nx_few (fis is) k
              obtain ⟨g, hg⟩ : ∃ g, g = nx (fis is) := ⟨_, rfl⟩
              have HGG := Lib.hid hg
              have hgk : nx (fis is) k = g k := by rw [hg]
              rw [hgk] at HROW HCR HNK HXK hnf
              rw [hgk] at HNE
              rw [← hg] at HNE HNK hwh
              clear hrow crow0 hnk hg hgk
              generalize hnk2 : g k = nk at *
              have HNK2 := Lib.hid hnk2
              clear hnk2
              go_wp2_with fail
              go_loopw [14] (fun x wr => ∃ (j : Nat) (ml : List Bool), j ≤ nk.length ∧ x = .int .i64 j ∧ Hid (Whole g is.length t k j ml) ∧ Hid (wr.heap[mb]? = some (.cells (bools ml).toArray 4 (0, 0))) ∧ Hid (Fr no w6 wr)) (fun x _ => (nk.length - intOf x).toNat)
              case atStart => exact ⟨0, _, by omega, rfl, hwh, hG, hfr⟩
              case round =>
                clear hwh hG hfr
                obtain ⟨j, ml, hj, rfl, hwh, hG, hfr⟩ := hrel
                have crow := hfr.out.cell HCR.out (by simp)
                by_cases hjs : j < nk.length
                · have hjs' : (j : Int) < nk.length := by omega
                  obtain ⟨kb, ko, rfl, cj⟩ := (HROW.out.fr hfr.out (by simp)).at1 (k := j) (u := .int .i64 (nk[j] : Nat)) (ints_at (List.getElem?_eq_getElem hjs))
                  have hyl := HXK.out nk[j] (List.getElem_mem hjs)
                  have HSTP := Lib.hid (HNE.out j ml hwh.out nk[j] (List.getElem?_eq_getElem hjs) hyl)
                  generalize nk[j] = y at *
                  have hyl' : (y : Int) < is.length := by omega
                  have hyl2 : ¬ ((is.length : Int) ≤ (y : Int)) := by omega
                  have hy0 : ¬ ((y : Int) < 0) := by omega
                  have hym : y < ml.length := by rw [hwh.out.len]; exact hyl
                  have hkm : k < ml.length := by rw [hwh.out.len]; exact hks
                  rw [List.getElem?_eq_getElem hym, List.getElem?_eq_getElem hkm] at HSTP
                  have cy : wr.cell? ⟨mb, y, none⟩ = some (.bool ml[y]) := cell_of_heap hG.out (by simp [bools, hym])
                  have ck : wr.cell? ⟨mb, k, none⟩ = some (.bool ml[k]) := cell_of_heap hG.out (by simp [bools, hkm])
                  have fy : wr.frozen? ⟨mb, y, none⟩ = false := frozen_of_heap hG.out
                  have HML := Lib.hid hwh.out.len
                  clear hwh
                  generalize ml[y] = my at *
                  generalize ml[k] = mk at *
                  have HNW : Hid (∀ b : Bool, b = (my || mk) → Hid (Whole g is.length t k (j + 1) (ml.set y b)) ∧ Hid ((wr.drew.setCell ⟨mb, y, none⟩ (.bool b)).heap[mb]? = some (.cells (bools (ml.set y b)).toArray 4 (0, 0))) ∧ Hid (Fr no w6 (wr.drew.setCell ⟨mb, y, none⟩ (.bool b)))) := Lib.hid (fun b hb =>
                    ⟨Lib.hid (HSTP.out b hb), Lib.hid (by rw [heap_setCell (w := wr.drew) hG.out, bools_set]), Lib.hid (hfr.out.drew.setCell _ _ (.inr (by have := HMB.out; simp; omega)))⟩)
                  clear HSTP hym hkm hG hfr
                  cases my
                  · obtain ⟨n1, n2, n3⟩ := HNW.out mk rfl
                    clear HNW
                    go_upto_region 28 with fail
                    refine Lex.region [25] [25, 1] (by kernel_rfl) (by kernel_rfl) ?_
                    refine Lex.opens (fun w' => w'.cell? ⟨nb, no' + k, none⟩ = some (.slice (some ⟨kb, ko, none⟩) nk.length vc) ∧ w'.cell? ⟨kb, ko + j, none⟩ = some (.int .i64 (y : Nat)) ∧ w'.cell? ⟨mb, y, none⟩ = some (.bool false) ∧ w'.cell? ⟨mb, k, none⟩ = some (.bool mk)) (⟨crow, cj, cy, ck⟩) ?_
                    repeat (first
                      | (refine Lex.skips (by rfl) ?_; (try simp only [Act.put, List.setIfInBounds_toArray, List.set_cons_zero, List.set_cons_succ]))
                      | (refine Lex.quiet (v := ?_) (by rfl) (by rfl) ?_ ?_; rotate_left; (focus (intro w' hS'; go_simp; try rfl)); (try simp only [Act.put, List.setIfInBounds_toArray, List.set_cons_zero, List.set_cons_succ])))
                    refine Lex.done ?_
                    refine Lex.opens (fun _ => True) (trivial) ?_
                    have cy2 : wr.drew.cell? ⟨mb, y, none⟩ = some (.bool false) := cy
                    have fy2 : wr.drew.frozen? ⟨mb, y, none⟩ = false := fy
                    refine Lex.loud (by rfl) (by rfl) ?_
                    intro K' hK'
                    go_simp
                    refine hK' _ _ (trivial) ?_
                    clear hK'
                    try simp only [Act.put, List.setIfInBounds_toArray, List.set_cons_zero, List.set_cons_succ]
                    refine Lex.done ?_
                    refine Lex.ends ?_
                    clear crow cj cy ck fy cy2 fy2
                    go_wp2_with fail
                    go_roundw
                    case rel => exact ⟨j + 1, _, by omega, by go_num, n1, n2, n3⟩
                    case measure => first | (simp [intOf]; done) | (simp [intOf]; omega)
                  · obtain ⟨n1, n2, n3⟩ := HNW.out true rfl
                    clear HNW
                    go_upto_region 28 with fail
                    refine Lex.region [25] [25, 1] (by kernel_rfl) (by kernel_rfl) ?_
                    refine Lex.opens (fun w' => w'.cell? ⟨nb, no' + k, none⟩ = some (.slice (some ⟨kb, ko, none⟩) nk.length vc) ∧ w'.cell? ⟨kb, ko + j, none⟩ = some (.int .i64 (y : Nat)) ∧ w'.cell? ⟨mb, y, none⟩ = some (.bool true) ∧ w'.cell? ⟨mb, k, none⟩ = some (.bool mk)) (⟨crow, cj, cy, ck⟩) ?_
                    repeat (first
                      | (refine Lex.skips (by rfl) ?_; (try simp only [Act.put, List.setIfInBounds_toArray, List.set_cons_zero, List.set_cons_succ]))
                      | (refine Lex.quiet (v := ?_) (by rfl) (by rfl) ?_ ?_; rotate_left; (focus (intro w' hS'; go_simp; try rfl)); (try simp only [Act.put, List.setIfInBounds_toArray, List.set_cons_zero, List.set_cons_succ])))
                    refine Lex.done ?_
                    refine Lex.opens (fun _ => True) (trivial) ?_
                    have cy2 : wr.drew.cell? ⟨mb, y, none⟩ = some (.bool true) := cy
                    have fy2 : wr.drew.frozen? ⟨mb, y, none⟩ = false := fy
                    refine Lex.loud (by rfl) (by rfl) ?_
                    intro K' hK'
                    go_simp
                    refine hK' _ _ (trivial) ?_
                    clear hK'
                    try simp only [Act.put, List.setIfInBounds_toArray, List.set_cons_zero, List.set_cons_succ]
                    refine Lex.done ?_
                    refine Lex.ends ?_
                    clear crow cj cy ck fy cy2 fy2
                    go_wp2_with fail
                    go_roundw
                    case rel => exact ⟨j + 1, _, by omega, by go_num, n1, n2, n3⟩
                    case measure => first | (simp [intOf]; done) | (simp [intOf]; omega)
                · obtain rfl : j = nk.length := by omega
                  have HW2 : Hid (Whole (nx (fis is)) is.length t (k + 1) 0 ml) := Lib.hid (by rw [← HGG.out]; exact HNK.out ml hwh.out)
                  clear hwh HNK HNE
                  go_wp2_with fail
                  go_roundw
                  case rel => exact ⟨k + 1, _, by omega, by go_num, HW2, hG, hfr⟩
                  case measure => first | (simp [intOf]; done) | (simp [intOf]; omega)
            · obtain rfl : k = is.length := by omega
              have HW2 : Hid (Whole (nx (fis is)) is.length (t + 1) 0 0 ml) := Lib.hid hwh.out.nextT
              clear hwh
              go_wp2_with fail
              go_roundw
              case rel => exact ⟨t + 1, _, by omega, by go_num, HW2, hG, hfr⟩
              case measure => first | (simp [intOf]; done) | (simp [intOf]; omega)
        · obtain rfl : t = is.length := by omega
          have HMR : Hid (∀ x, Flow.Reach (nx (fis is)) x → ml[x]? = some true) := Lib.hid (fun x h => hwh.out.up x (by have := reach_lt HF.out h; rwa [fis_len] at this) (HLA.out x h))
          have HML := Lib.hid hwh.out.len
          clear hwh
          go_wp2_with fail
          go_loopw [15] (fun x wr => ∃ i : Nat, i ≤ is.length ∧ x = .int .i64 i ∧ Hid (wr.heap[mb]? = some (.cells (bools ml).toArray 4 (0, 0))) ∧ Hid (Fr no w6 wr)) (fun x _ => (is.length - intOf x).toNat)
          case atStart => exact ⟨0, by omega, rfl, hG, hfr⟩
          case round =>
            clear hG hfr
            obtain ⟨i, hi, rfl, hG, hfr⟩ := hrel
            by_cases his : i < is.length
            · have his' : (i : Int) < is.length := by omega
              have hio : i < ob.length := by rw [HOL.out]; exact his
              have hr0 := HR6.out.fr hfr.out (by simp)
              obtain ⟨_, _, e0, cr⟩ := hr0.at1 (k := i) (u := .bool ob[i]) (by simp [bools, hio])
              cases e0
              clear hr0
              obtain ⟨nb, no', va, vc, rfl, crow0, hrow⟩ := HN6.out.at_ i (by rw [nxs_len]; exact his)
              have hnk : (nxs (fis is))[i]'(by rw [nxs_len]; exact his) = nx (fis is) i := by simp [nxs]
              rw [hnk] at crow0 hrow
              have HROW := Lib.hid hrow
              have HCR := Lib.hid crow0
              have hnf := nx_few (fis is) i
              have HOBY : Hid (ob[i]? = some true → ∀ y ∈ nx (fis is) i, ob[y]? = some true) := Lib.hid (fun h y hy => (HOQ.out y).2 (((HOQ.out i).1 h).step hy))
              have HMI : Hid (ob[i]? = some true → ml[i]? = some true) := Lib.hid (fun h => HMR.out i ((HOQ.out i).1 h))
              have HYL := Lib.hid (fun y (h : y ∈ nx (fis is) i) => HXL.out i y his h)
              rw [List.getElem?_eq_getElem hio] at HOBY HMI
              generalize nx (fis is) i = nk at *
              clear hrow crow0 hnk
              have crow := hfr.out.cell HCR.out (by simp)
              generalize ob[i] = b at *
              cases b
              case' true =>
                have cm : wr.cell? ⟨mb, i, none⟩ = some (.bool true) := cell_of_heap hG.out (by have := HMI.out rfl; simp [bools, this])
                have HOB2 := Lib.hid (HOBY.out rfl)
                go_wp2_with fail
                clear cm
              case' false =>
                have HOB2 : Hid True := Lib.hid trivial
                go_wp2_with fail
              all_goals
                clear HOBY HMI crow
                have HCRI := Lib.hid cr
                clear cr
                obtain ⟨wz, hwz⟩ : ∃ x, x = wr := ⟨_, rfl⟩
                rw [← hwz] at hG hfr HCRI ⊢
                clear hwz wr
                go_loopw [16] (fun x wr => ∃ k : Nat, k ≤ nk.length ∧ x = .int .i64 k ∧ wr = wz) (fun x _ => (nk.length - intOf x).toNat)
                case atStart => exact ⟨0, by omega, rfl, rfl⟩
                case round =>
                  obtain ⟨k, hk, rfl, rfl⟩ := hrel
                  have crow := hfr.out.cell HCR.out (by simp)
                  have cr := HCRI.out
                  by_cases hks : k < nk.length
                  · have hks' : (k : Int) < nk.length := by omega
                    obtain ⟨kb, ko, rfl, cj⟩ := (HROW.out.fr hfr.out (by simp)).at1 (k := k) (u := .int .i64 (nk[k] : Nat)) (ints_at (List.getElem?_eq_getElem hks))
                    have hyl := HYL.out nk[k] (List.getElem_mem hks)
                    have hyl' : ((nk[k] : Nat) : Int) < is.length := by omega
                    have HCY : Hid (∀ b : Bool, ob[nk[k]]? = some b → wr.cell? ⟨rb, ro + nk[k], none⟩ = some (.bool b)) := Lib.hid (fun b hb => by
                      obtain ⟨_, _, e0, h⟩ := (HR6.out.fr hfr.out (by simp)).at1 (k := nk[k]) (u := .bool b) (by simp [bools, hb])
                      cases e0
                      exact h)
                    first
                      | (have cy := HCY.out true (HOB2.out _ (List.getElem_mem hks)); generalize nk[k] = y at *; clear HCY; go_wp2_with fail)
                      | (clear HCY; generalize nk[k] = y at *; go_wp2_with fail)
                    go_roundw
                    case rel => exact ⟨k + 1, by omega, by go_num, by first | rfl | trivial⟩
                    case measure => first | (simp [intOf]; done) | (simp [intOf]; omega)
                  · obtain rfl : k = nk.length := by omega
                    go_wp2_with fail
                    go_roundw
                    case rel => exact ⟨i + 1, by omega, by go_num, hG, hfr⟩
                    case measure => first | (simp [intOf]; done) | (simp [intOf]; omega)
            · obtain rfl : i = is.length := by omega
              have F := Lib.hid (R6.out.trans hfr.out)
              clear hG hfr
              go_wp2_with fail
              go_ret
              exact ⟨rfl, F.out⟩


theorem closed10_rd (w : World) (v : Value) {n : Nat} {d : Dt} (h : Rd Try.prog w n 22 [v] d) (sv : Value) (zs : List Bool) (hs : Reads w sv 1 zs.length (zs.map .bool) ∧ zs.length * 1 ≤ reachBytes) :
    Calls Try.prog 3 #[v, sv] w fun e w' => e = .returned (.bool true) ∧ Fr no w w' := by
  obtain ⟨sa, c, is, rfl, h1, h2, h3, h4⟩ := code_of h
  exact closed10_ok w sa c is h1 h2 h3 h4 sv zs hs.1 (by have := hs.2; unfold reachBytes at this; unfold maxLen; omega)

end Go.Proofs.Ytgofiaodncemiaa

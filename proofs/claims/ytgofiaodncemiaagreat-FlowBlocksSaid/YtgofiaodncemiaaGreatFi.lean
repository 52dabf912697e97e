/- law10's sameBlocks. -/
import Derived.Test.YtgofiaodncemiaaGreatFh
set_option linter.unusedSimpArgs false
set_option linter.unusedVariables false
set_option linter.unusedSectionVars false
set_option linter.unnecessarySimpa false
namespace Go.Proofs.YtgofiaodncemiaaGreat
open Go.RowKit Go.Flow

attribute [local go_sem] Program.isFuncB Program.isSliceB

variable {w w' w'' w0 : World}

theorem Reads.cellsAt {sa : Option Addr} {n c z : Nat} {cs : List Value} (h : Reads w (.slice sa n c) z n cs) (hne : 0 < cs.length) : ∃ b o, sa = some ⟨b, o, none⟩ ∧ ∀ j u, cs[j]? = some u → w.cell? ⟨b, o + j, none⟩ = some u := by
  rcases h with ⟨_, _, rfl⟩ | ⟨a, cap, hv, h1, h2, h3, h4⟩
  · simp at hne
  · cases hv
    have h0 := h4 0 cs[0] (List.getElem?_eq_getElem hne)
    have ea : a = ⟨a.block, a.off, none⟩ := by
      have := spot_none h0
      rwa [show a.add 0 = a from by unfold Addr.add; simp] at this
    generalize a.block = ab at ea
    generalize a.off = ao at ea
    subst ea
    exact ⟨ab, ao, rfl, fun j u hu => by have := h4 j u hu; rwa [Addr.add_lit] at this⟩

/-- blocks, as they read -/
def BlkIn (w : World) (u : Value) (bs : List Bk) : Prop :=
  ∃ vs : List Value, vs.length = bs.length ∧ Reads w u 3 bs.length (bCells bs vs) ∧ ∀ (k : Nat) (v : Value) (b : Bk), vs[k]? = some v → bs[k]? = some b → Reads w v 1 b.nx.length (ints (nats b.nx))
theorem BlkIn.fr {u : Value} {bs : List Bk} (h : BlkIn w u bs) (r : Fr no w w') : BlkIn w' u bs := by
  obtain ⟨vs, h0, h1, h2⟩ := h
  exact ⟨vs, h0, h1.fr r (by simp), fun k v l e1 e2 => (h2 k v l e1 e2).fr r (by simp)⟩
theorem BlkIn.shape {u : Value} {bs : List Bk} (h : BlkIn w u bs) : ∃ a c, u = .slice a bs.length c := by
  obtain ⟨vs, h0, h1, h2⟩ := h
  exact h1.shape
theorem BlkIn.at_ {sa : Option Addr} {c n : Nat} {bs : List Bk} (h : BlkIn w (.slice sa n c) bs) (k : Nat) (hk : k < bs.length) :
    ∃ b o a c', sa = some ⟨b, o, none⟩ ∧ w.cell? ⟨b, o + k * 3, none⟩ = some (.int .i64 bs[k].fr) ∧ w.cell? ⟨b, o + k * 3 + 1, none⟩ = some (.int .i64 bs[k].to) ∧ w.cell? ⟨b, o + k * 3 + 2, none⟩ = some (.slice a bs[k].nx.length c') ∧
      Reads w (.slice a bs[k].nx.length c') 1 bs[k].nx.length (ints (nats bs[k].nx)) := by
  obtain ⟨vs, h0, h1, h2⟩ := h
  obtain ⟨a', c'', hv⟩ := h1.shape
  cases hv
  have hkv : k < vs.length := by omega
  have hl := bCells_len bs vs h0
  obtain ⟨b, o, rfl, hc⟩ := Reads.cellsAt h1 (by omega)
  obtain ⟨e1, e2, e3⟩ := bCells_at bs vs k _ _ (List.getElem?_eq_getElem hk) (List.getElem?_eq_getElem hkv)
  have hr := h2 k _ _ (List.getElem?_eq_getElem hkv) (List.getElem?_eq_getElem hk)
  obtain ⟨ra, rc, he⟩ := hr.shape
  have c1 := hc _ _ e1
  have c2 := hc _ _ e2
  have c3 := hc _ _ e3
  rw [he] at c3 hr
  exact ⟨b, o, ra, rc, rfl, c1, by rw [Nat.add_assoc]; exact c2, by rw [Nat.add_assoc]; exact c3, hr⟩
theorem BlkOwn.blk {B : Nat} {u : Value} {bs : List Bk} (h : BlkOwn w B u bs) : BlkIn w u bs := by
  obtain ⟨vs, h1, h2, h3⟩ := h
  refine ⟨vs, by rw [h1.len, List.length_map], owns_reads h2, fun k v b e1 e2 => ?_⟩
  have := h1.own k v b.nx e1 (by rw [List.getElem?_map, e2]; rfl)
  exact owns_reads this
def bkT (b : Bk) : Nat × Nat × List Nat := (b.fr, b.to, b.nx)
theorem natI_ne {a b : Nat} (h : a ≠ b) : ((a : Int) != (b : Int)) = true := by rw [bne_iff_ne]; omega

set_option maxRecDepth 100000 in
set_option maxHeartbeats 8000000 in
theorem sameblocks_ok (w : World) (sa sb : Option Addr) (ca cb : Nat) (is js : List Bk) (hin : BlkIn w (.slice sa is.length ca) is) (hjn : BlkIn w (.slice sb js.length cb) js) (hlen : is.length ≤ 100000) (hargs : ∀ i ∈ is, i.nx.length ≤ 100000) :
    Calls Tryz.prog 20 #[.slice sa is.length ca, .slice sb js.length cb] w fun e w' => e = .returned (.bool (decide (is.map bkT = js.map bkT))) ∧ Fr no w w' := by
  by_cases hl : is.length = js.length
  case neg =>
    have HN : Hid (decide (is.map bkT = js.map bkT) = false) := Lib.hid (decide_eq_false (fun e => hl (by have := congrArg List.length e; simpa using this)))
    have e1 : ((is.length : Int) != (js.length : Int)) = true := by rw [bne_iff_ne]; omega
    clear hl hin hjn hargs
    go_enter Tryz.func20, Tryz.ntmps20
    go_wp2_with fail
    go_ret
    exact ⟨by rw [HN.out]; rfl, Fr.refl _ _⟩
  have HIN := Lib.hid hin
  have HJN := Lib.hid hjn
  have HAR := Lib.hid hargs
  have hl0 := hl
  clear hin hjn hargs hl
  generalize hmm : js.length = mm at *
  obtain rfl : mm = is.length := by omega
  have HJL := Lib.hid hmm
  clear hmm hl0
  go_enter Tryz.func20, Tryz.ntmps20
  go_wp2_with fail
  go_loopw [5] (fun x wr => ∃ k : Nat, k ≤ is.length ∧ x = .int .i64 k ∧ Hid ((is.map bkT).take k = (js.map bkT).take k) ∧ Hid (Fr no w wr)) (fun x _ => (is.length - intOf x).toNat)
  case atStart => exact ⟨0, by omega, rfl, Lib.hid rfl, Lib.hid (Fr.refl _ _)⟩
  case round =>
    obtain ⟨k, hk, rfl, hpre, hfr⟩ := hrel
    by_cases hks : k < is.length
    · have hks' : (k : Int) < is.length := by omega
      have hkj : k < js.length := by have := HJL.out; omega
      obtain ⟨b1, o1, a1, d1, rfl, p1, q1, h1, g1⟩ := (HIN.out.fr hfr.out).at_ k hks
      obtain ⟨b2, o2, a2, d2, rfl, p2, q2, h2, g2⟩ := (HJN.out.fr hfr.out).at_ k hkj
      have HA := HAR.out _ (List.getElem_mem hks)
      have HD : Hid (((is.map bkT).take (k + 1) = (js.map bkT).take (k + 1)) ↔ bkT is[k] = bkT js[k]) := Lib.hid (by
        rw [List.take_succ_eq_append_getElem (by simpa using hks), List.take_succ_eq_append_getElem (by simpa using hkj), hpre.out]
        simp)
      have HB : Hid ((is.map bkT).take (k + 1) ≠ (js.map bkT).take (k + 1) → decide (is.map bkT = js.map bkT) = false) := Lib.hid (fun h => decide_eq_false (fun e => h (by rw [e])))
      generalize is[k] = i1 at *
      generalize js[k] = i2 at *
      obtain ⟨f1, t1, n1⟩ := i1
      obtain ⟨f2, t2, n2⟩ := i2
      dsimp only at p1 q1 h1 g1 p2 q2 h2 g2 HA
      by_cases hf : f1 = f2
      case neg =>
        have e1 := natI_ne hf
        have HF := Lib.hid (HB.out (fun e => by have := HD.out.1 e; simp [bkT] at this; exact hf this.1))
        clear hf hpre HD HB g1 g2
        go_wp2_with fail
        go_quiet (fail)
        go_wp2_with fail
        go_ret
        exact ⟨by rw [HF.out]; rfl, hfr.out.drewN _⟩
      subst hf
      have e1 : ((f1 : Int) != (f1 : Int)) = false := by simp
      by_cases ht : t1 = t2
      case neg =>
        have e2 := natI_ne ht
        have HF := Lib.hid (HB.out (fun e => by have := HD.out.1 e; simp [bkT] at this; exact ht this.1))
        clear ht hpre HD HB g1 g2
        go_wp2_with fail
        go_quiet (fail)
        go_wp2_with fail
        go_ret
        exact ⟨by rw [HF.out]; rfl, hfr.out.drewN _⟩
      subst ht
      have e2 : ((t1 : Int) != (t1 : Int)) = false := by simp
      have HS := Lib.hid (fun w1 (r : Fr no wr w1) => same_ints w1 (.slice a1 n1.length d1) (.slice a2 n2.length d2) (nats n1) (nats n2) (by rw [nats_len]; exact g1.fr r (by simp)) (by rw [nats_len]; exact g2.fr r (by simp)) (by rw [nats_len]; omega))
      have HE : Hid (decide (nats n1 = nats n2) = decide ((is.map bkT).take (k + 1) = (js.map bkT).take (k + 1))) := Lib.hid (by
        apply decide_eq_decide.2
        rw [nats_inj, HD.out]
        simp [bkT])
      have HT : Hid (decide ((is.map bkT).take (k + 1) = (js.map bkT).take (k + 1)) = true → (is.map bkT).take (k + 1) = (js.map bkT).take (k + 1)) := Lib.hid (fun h => by simpa using h)
      have HB2 : Hid (decide ((is.map bkT).take (k + 1) = (js.map bkT).take (k + 1)) = false → decide (is.map bkT = js.map bkT) = false) := Lib.hid (fun h => HB.out (by simpa using h))
      have rd := (Fr.refl no wr).drew
      have HS1 := Lib.hid (HS.out _ rd)
      rw [← HE.out] at HT HB2
      clear rd HS g1 g2 HD HE HB
      generalize decide (nats n1 = nats n2) = q at *
      go_wp2_with fail
      refine Lex.region [35] [38] (by kernel_rfl) (by kernel_rfl) ?_
      refine Lex.opens (fun w' => w'.cell? ⟨b1, o1 + k * 3, none⟩ = some (.int .i64 f1) ∧ w'.cell? ⟨b1, o1 + k * 3 + 1, none⟩ = some (.int .i64 t1) ∧ w'.cell? ⟨b1, o1 + k * 3 + 2, none⟩ = some (.slice a1 n1.length d1) ∧ w'.cell? ⟨b2, o2 + k * 3, none⟩ = some (.int .i64 f1) ∧ w'.cell? ⟨b2, o2 + k * 3 + 1, none⟩ = some (.int .i64 t1) ∧ w'.cell? ⟨b2, o2 + k * 3 + 2, none⟩ = some (.slice a2 n2.length d2)) (⟨p1, q1, h1, p2, q2, h2⟩) ?_
      repeat (first
        | (refine Lex.skips (by rfl) ?_; (try simp only [Act.put, List.setIfInBounds_toArray, List.set_cons_zero, List.set_cons_succ]))
        | (refine Lex.quiet (v := ?_) (by rfl) (by rfl) ?_ ?_; rotate_left; (focus (intro w' hS'; go_simp; try rfl)); (try simp only [Act.put, List.setIfInBounds_toArray, List.set_cons_zero, List.set_cons_succ])))
      refine Lex.loud (by rfl) (by rfl) ?_
      intro K' hK'
      go_simp
      refine HS1.out.mono ?_
      rintro e w2 ⟨rfl, qn, rfl⟩
      refine hK' _ _ (⟨p1, q1, h1, p2, q2, h2⟩) ?_
      clear hK'
      try simp only [Act.put, List.setIfInBounds_toArray, List.set_cons_zero, List.set_cons_succ]
      repeat (first
        | (refine Lex.skips (by rfl) ?_; (try simp only [Act.put, List.setIfInBounds_toArray, List.set_cons_zero, List.set_cons_succ]))
        | (refine Lex.quiet (v := ?_) (by rfl) (by rfl) ?_ ?_; rotate_left; (focus (intro w' hS'; go_simp; try rfl)); (try simp only [Act.put, List.setIfInBounds_toArray, List.set_cons_zero, List.set_cons_succ])))
      refine Lex.done ?_
      refine Lex.ends ?_
      cases q
      · have HF := Lib.hid (HB2.out rfl)
        clear p1 q1 h1 p2 q2 h2
        go_wp2_with fail
        go_ret
        exact ⟨by rw [HF.out]; rfl, hfr.out.drewN _⟩
      · have HT2 := Lib.hid (HT.out rfl)
        clear p1 q1 h1 p2 q2 h2
        go_wp2_with fail
        go_roundw
        case rel => exact ⟨k + 1, by omega, by go_num, HT2, Lib.hid (hfr.out.drewN _)⟩
        case measure => first | (simp [intOf]; done) | (simp [intOf]; omega)
    · obtain rfl : k = is.length := by omega
      have HE : Hid (is.map bkT = js.map bkT) := Lib.hid (by
        have := hpre.out
        rwa [List.take_of_length_le (by simp), List.take_of_length_le (by rw [List.length_map, HJL.out]; exact Nat.le_refl _)] at this)
      go_wp2_with fail
      go_ret
      exact ⟨by rw [decide_eq_true HE.out]; rfl, hfr.out⟩

end Go.Proofs.YtgofiaodncemiaaGreat

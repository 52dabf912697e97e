/- flow.Blocks. -/
import Derived.Test.YtgofiaodncemiaaGreatFe
set_option linter.unusedSimpArgs false
set_option linter.unusedVariables false
set_option linter.unusedSectionVars false
set_option linter.unnecessarySimpa false
namespace Go.Proofs.YtgofiaodncemiaaGreat
open Go.RowKit Go.Flow

attribute [local go_sem] Program.isFuncB Program.isSliceB

variable {w w' w'' w0 : World}

/-- blocks in a row, three cells each -/
def bCells : List Bk → List Value → List Value
  | b :: bs, v :: vs => .int .i64 b.fr :: .int .i64 b.to :: v :: bCells bs vs
  | _, _ => []
theorem bCells_snoc : ∀ (bs : List Bk) (vs : List Value) (b : Bk) (v : Value), vs.length = bs.length → bCells (bs ++ [b]) (vs ++ [v]) = bCells bs vs ++ [.int .i64 b.fr, .int .i64 b.to, v]
  | [], [], b, v, _ => rfl
  | [], _ :: _, b, v, h => by simp at h
  | _ :: _, [], b, v, h => by simp at h
  | x :: bs, y :: vs, b, v, h => by
    have := bCells_snoc bs vs b v (by simpa using h)
    simp [bCells, this]
theorem bCells_len : ∀ (bs : List Bk) (vs : List Value), vs.length = bs.length → (bCells bs vs).length = bs.length * 3
  | [], [], _ => rfl
  | [], _ :: _, h => by simp at h
  | _ :: _, [], h => by simp at h
  | x :: bs, y :: vs, h => by
    have := bCells_len bs vs (by simpa using h)
    simp [bCells, this]; omega
theorem bCells_at : ∀ (bs : List Bk) (vs : List Value) (k : Nat) (b : Bk) (v : Value), bs[k]? = some b → vs[k]? = some v → (bCells bs vs)[k * 3]? = some (.int .i64 b.fr) ∧ (bCells bs vs)[k * 3 + 1]? = some (.int .i64 b.to) ∧ (bCells bs vs)[k * 3 + 2]? = some v
  | [], _, k, b, v, h, _ => by simp at h
  | _ :: _, [], k, b, v, _, h => by simp at h
  | x :: bs, y :: vs, 0, b, v, h1, h2 => by simp at h1 h2; subst h1; subst h2; exact ⟨rfl, rfl, rfl⟩
  | x :: bs, y :: vs, k + 1, b, v, h1, h2 => by
    have := bCells_at bs vs k b v (by simpa using h1) (by simpa using h2)
    rw [show (k + 1) * 3 = k * 3 + 1 + 1 + 1 from by omega]
    simp only [bCells, List.getElem?_cons_succ]
    exact this

/-- blocks, all memory of the call's own -/
def BlkOwn (w' : World) (B : Nat) (u : Value) (bs : List Bk) : Prop :=
  ∃ vs : List Value, Rows2 w' B vs (bs.map Bk.nx) ∧ w'.ownsRow B 44 3 u bs.length (bCells bs vs) ∧ ∀ v ∈ vs, ∀ b, v.ownBlock = some b → u.ownBlock ≠ some b
/-- what Blocks answers -/
def BlkPost (w : World) (ck : Int) (bs : List Bk) (e : Ending) (w' : World) : Prop :=
  ∃ u, e = .returned (.tuple #[u, .int .i64 ck]) ∧ (ck ≠ 0 → u = .slice none 0 0) ∧ (ck = 0 → BlkOwn w' w.heap.size u bs) ∧ Fr no w w'
theorem BlkPost.bad {ck : Int} {bs : List Bk} (h : ck ≠ 0) (r : Fr no w w') : BlkPost w ck bs (.returned (.tuple #[.slice none 0 0, .int .i64 ck])) w' := ⟨_, rfl, fun _ => rfl, fun h0 => absurd h0 h, r⟩
theorem BlkPost.good {bs : List Bk} {u : Value} (h : BlkOwn w' w.heap.size u bs) (r : Fr no w w') : BlkPost w 0 bs (.returned (.tuple #[u, .int .i64 0])) w' := ⟨_, rfl, fun h0 => absurd rfl h0, fun _ => h, r⟩

theorem cells3 {b : Nat} {a0 a1 a2 : Value} {t : TypeId} (h : w.heap[b]? = some (.cells #[a0, a1, a2] t (0, 0))) : w.cell? ⟨b, 0, none⟩ = some a0 ∧ w.cell? ⟨b, 1, none⟩ = some a1 ∧ w.cell? ⟨b, 2, none⟩ = some a2 :=
  ⟨cell_of_heap h rfl, cell_of_heap h rfl, cell_of_heap h rfl⟩
theorem reads_3 (w : World) (a0 a1 a2 : Value) (e : TypeId) : Reads (w.alloc (.cells #[a0, a1, a2] e)) (.slice (some ⟨w.heap.size, 0, none⟩) 1 1) 3 1 [a0, a1, a2] := by
  refine .inr ⟨_, 1, rfl, Nat.le_refl _, by unfold maxLen; omega, rfl, fun j u hu => ?_⟩
  rw [Addr.add_lit]
  refine cell_of_heap (heap_new w _) ?_
  rw [Nat.zero_add]
  simpa using hu
theorem three_one (a b : Int) (xa : Option Addr) (n c : Nat) : ∀ v ∈ [Value.int .i64 a, .int .i64 b, .slice xa n c], v.oneCell' = true := by
  intro v hv
  simp only [List.mem_cons, List.not_mem_nil, or_false] at hv
  rcases hv with rfl | rfl | rfl <;> rfl
def zeroBk : Array Value := #[.int .i64 0, .int .i64 0, .slice none 0 0]
theorem Tryz.infoBk3 : (Tryz.prog.info? 44).map (fun i => (i.zero, i.size, i.bytes)) = some (some (.agg zeroBk), 3, 40) := by kernel_rfl
theorem countP_nats (h : List Nat) (x : Nat) : ((nats h).take (nats h).length).countP (fun y => decide (y < (x : Int))) = idx h x := by
  rw [List.take_length, idx_int]
theorem nats_rising {l : List Nat} (h : l.Pairwise (· < ·)) : ((nats l).take l.length).Pairwise (· ≤ ·) := by
  rw [← nats_len, List.take_length]
  exact (nats_sorted h).imp (fun h => by omega)
/-- where a leader lies among the leaders, searched -/
theorem search_ok (w : World) (v : Value) (h : List Nat) (x : Nat) (hr : Reads w v 1 h.length (ints (nats h))) (hs : h.Pairwise (· < ·)) (hl : h.length ≤ 100000) :
    Calls Tryz.prog 38 #[v, .int .i64 x] w fun e w' => ∃ q, e = .returned (.tuple #[.int .i64 (idx h x : Nat), .bool q]) ∧ Fr no w w' := by
  rcases hr with ⟨rfl, h0, h1⟩ | ⟨a, cap, rfl, h1, h2, h3, h4⟩
  · obtain rfl : h = [] := List.length_eq_zero_iff.1 h0
    refine (Tryz.slices_BinarySearch_int_empty none 0 x w).mono ?_
    rintro e w' ⟨rfl, rfl⟩
    exact ⟨_, rfl, Fr.refl _ _⟩
  · cases hh : h with
    | nil =>
      refine (Tryz.slices_BinarySearch_int_empty (some a) cap x w).mono ?_
      rintro e w' ⟨rfl, rfl⟩
      exact ⟨_, rfl, Fr.refl _ _⟩
    | cons y t =>
      rw [← hh]
      have hn0 : 0 < h.length := by rw [hh]; simp
      have ha : ∀ j, j < h.length → w.cell? (a.add j) = some (.int .i64 ((nats h).getD j 0)) := fun j hj => h4 j _ (by simp [ints, nats, hj, List.getD])
      have ea : a = ⟨a.block, a.off, none⟩ := by
        have := spot_none (ha 0 hn0)
        rwa [show a.add 0 = a from by unfold Addr.add; simp] at this
      generalize a.block = ab at ea
      generalize a.off = ao at ea
      subst ea
      have C := Tryz.slices_BinarySearch_int ab ao h.length cap (nats h) x w (by rw [nats_len]; exact Nat.le_refl _) (by omega) (fun j hj => by
        rw [nats_len] at hj
        have := ha j hj
        rwa [Addr.add_lit] at this) (nats_rising hs)
      refine C.mono ?_
      rintro e w' ⟨rfl, q, rfl⟩
      refine ⟨_, by rw [← countP_nats, nats_len], (Fr.refl no w).drewN q⟩

-- WALK
theorem blks_len (l : List Fi) : (blks l).length = (heads l).length := by simp [blks]
theorem blks_next (l : List Fi) (b : Nat) (hb : b < (heads l).length) : (blks l).take (b + 1) = (blks l).take b ++ [⟨(heads l)[b], endOf l b, bnx l (endOf l b)⟩] := by
  rw [List.take_succ_eq_append_getElem (by rw [blks_len]; exact hb)]
  simp [blks, hb]
theorem bnx_sort {l : List Fi} (F : Flows l) {b : Nat} (hb : b < (heads l).length) : sortI (nats (bnx l (endOf l b))) = nats (bnx l (endOf l b)) := sortI_nats (bnx_sorted F hb) (fun _ => Iff.rfl)
theorem nxs_len (is : List Ix) : (nxs (fis is)).length = is.length := by simp [nxs, fis_len]
theorem nxs_at (is : List Ix) (k : Nat) (hk : k < is.length) : (nxs (fis is))[k]? = some (nx (fis is) k) := by simp [nxs, fis_len, hk]
theorem heads_len (is : List Ix) : (heads (fis is)).length ≤ is.length := by
  unfold heads headsTo
  refine Nat.le_trans (List.length_filter_le _ _) ?_
  rw [List.length_range, fis_len]
  exact Nat.le_refl _

theorem ints_at {l : List Nat} {k x : Nat} (h : l[k]? = some x) : (ints (nats l))[k]? = some (.int .i64 x) := by simp [ints, nats, h]
set_option maxRecDepth 100000 in
set_option maxHeartbeats 8000000 in
theorem fblocks_ok (w : World) (sa : Option Addr) (c : Nat) (is : List Ix) (hin : CodeIn w sa is) (hlen : is.length ≤ 1000) (hargs : ∀ i ∈ is, i.l.length ≤ 1000) (hN : ∀ i ∈ is, rng i.N) :
    Calls Tryz.prog 18 #[.slice sa is.length c] w (BlkPost w (flowCk is) (blks (fis is))) := by
  have HNX := Lib.hid (fnext_ok w sa c is hin hlen hargs hN)
  have HLD := Lib.hid (fun w1 (r : Fr no w w1) (h : flowCk is = 0) => leaders_ok w1 sa c is (hin.fr r) hlen hargs hN h)
  have HFL : Hid (flowCk is = 0 → Flows (fis is)) := Lib.hid flowCk_flows
  generalize flowCk is = ck at *
  clear hin hargs hN
  go_enter Tryz.func18, Tryz.ntmps18
  go_wp2_with fail
  refine HNX.out.mono ?_
  rintro e w1 ⟨u, rfl, hbad, hgood, r1⟩
  have R1 := Lib.hid r1
  have HBAD := Lib.hid hbad
  have HGOOD := Lib.hid hgood
  clear r1 hbad hgood HNX
  by_cases hj : ck = 0
  case neg =>
    obtain rfl := HBAD.out hj
    have e1 : (ck != 0) = true := by simpa using hj
    have HJ := Lib.hid hj
    clear hj
    go_wp2_with fail
    go_ret2
    exact BlkPost.bad HJ.out R1.out
  have HN0 := (HGOOD.out hj).nx
  have HF := Lib.hid (HFL.out hj)
  have HLD1 := Lib.hid (HLD.out w1 R1.out hj)
  subst hj
  clear HBAD HGOOD HFL HLD
  have hsh : ∃ a c', u = .slice a is.length c' := by
    obtain ⟨vs, h1, h2⟩ := HN0
    obtain ⟨a, c', rfl⟩ := h1.shape
    exact ⟨a, c', by rw [nxs_len]⟩
  obtain ⟨na, nc, rfl⟩ := hsh
  have HN1 := Lib.hid HN0
  clear HN0
  go_wp2_with fail
  refine HLD1.out.mono ?_
  rintro e w2 ⟨hv, rfl, ho2, r2⟩
  obtain ⟨ha, hc, rfl⟩ := owns_shape ho2
  have HD2 := Lib.hid (owns_reads ho2)
  have HN2 := Lib.hid (HN1.out.fr r2)
  have R2 := Lib.hid (R1.out.trans r2)
  have HHL := Lib.hid (heads_len is)
  have HHS := Lib.hid (headsTo_sorted (fis is) (fis is).length)
  obtain ⟨hd, hhd⟩ : ∃ hd, hd = heads (fis is) := ⟨_, rfl⟩
  have hdl : hd.length ≤ 1000 := by rw [hhd]; have := HHL.out; omega
  change Hid (List.Pairwise (· < ·) (heads (fis is))) at HHS
  rw [← hhd] at HHS HD2 ⊢
  have HHD := Lib.hid hhd
  clear hhd ho2 r2 HLD1 HN1 R1 HHL
  go_wp2_with fail
  go_loopw [7, 28] (fun x y wr => ∃ (b : Nat) (vs : List Value), b ≤ hd.length ∧ y = .int .i64 b ∧ vs.length = b ∧ Hid (wr.ownsRow w2.heap.size 44 3 x b (bCells ((blks (fis is)).take b) vs)) ∧
    Hid (Rows2 wr w.heap.size vs (((blks (fis is)).take b).map Bk.nx)) ∧ Hid (∀ v ∈ vs, ∀ b', v.ownBlock = some b' → x.ownBlock ≠ some b') ∧ Hid (Fr no w2 wr)) (fun _ y _ => (hd.length - intOf y).toNat)
  case atStart => exact ⟨0, [], by omega, rfl, rfl, Lib.hid (World.ownsRow_nil _ _ _ _), Lib.hid (Rows2.nil _ _), Lib.hid (by intro v hv; cases hv), Lib.hid (Fr.refl _ _)⟩
  case round =>
    obtain ⟨b, vs, hb, rfl, hvl, hown, hrows, hsep, hfr⟩ := hrel
    obtain ⟨xa, xc, rfl⟩ := owns_shape hown.out
    have HVL := Lib.hid hvl
    clear hvl
    by_cases hbs : b < hd.length
    · have hbs' : (b : Int) < hd.length := by omega
      obtain ⟨hb0, ho0, rfl, ch⟩ := (HD2.out.fr hfr.out (by simp)).at1 (k := b) (u := .int .i64 (hd[b] : Nat)) (by simp [ints, nats, hbs])
      have hbh : b < (heads (fis is)).length := by rw [← HHD.out]; exact hbs
      have HEP : Hid (hd[b] < endOf (fis is) b ∧ endOf (fis is) b ≤ is.length) := Lib.hid (by
        have := endOf_pos HF.out b hbh
        rw [fis_len] at this
        simpa [HHD.out] using this)
      have HBS := Lib.hid (bnx_sort HF.out hbh)
      have HBN : Hid ((blks (fis is)).take (b + 1) = (blks (fis is)).take b ++ [⟨hd[b], endOf (fis is) b, bnx (fis is) (endOf (fis is) b)⟩]) := Lib.hid (by
        have := blks_next (fis is) b hbh
        simpa [HHD.out] using this)
      obtain ⟨tn, htn⟩ : ∃ tn, endOf (fis is) b = tn + 1 := ⟨endOf (fis is) b - 1, by have := HEP.out; omega⟩
      have htl : tn < is.length := by have := HEP.out; omega
      have HBX : Hid (bnx (fis is) (endOf (fis is) b) = (nx (fis is) tn).map (idx hd)) := Lib.hid (by unfold bnx; rw [htn, HHD.out]; rfl)
      have hnf := nx_few (fis is) tn
      have HRW : Hid (∃ (v : Value) (nb no' : Nat), na = some ⟨nb, no', none⟩ ∧ wr.cell? ⟨nb, no' + tn, none⟩ = some v ∧ Reads wr v 1 (nx (fis is) tn).length (ints (nats (nx (fis is) tn)))) := Lib.hid (by
        obtain ⟨rv, h1, h2⟩ := HN2.out.fr hfr.out
        rw [nxs_len] at h1
        have hl := h1.len
        have hk : tn < rv.length := by omega
        obtain ⟨nb, no', e1, e2⟩ := h1.at1 (k := tn) (u := rv[tn]) (List.getElem?_eq_getElem hk)
        exact ⟨rv[tn], nb, no', e1, e2, h2 tn _ _ (List.getElem?_eq_getElem hk) (nxs_at is tn htl)⟩)
      obtain ⟨v, nb, no', rfl, cv, hrv⟩ := HRW.out
      obtain ⟨va, vc, rfl⟩ := hrv.shape
      have HRV := Lib.hid hrv
      have HTO : Hid (endOf (fis is) b = tn + 1) := Lib.hid htn
      rw [HTO.out] at HEP HBS HBN HBX
      have HT1 : b + 1 < hd.length → hd[b + 1]? = some (tn + 1) := fun h => by
        have := HTO.out
        unfold endOf at this
        rw [← HHD.out, List.getElem?_eq_getElem h] at this
        rw [List.getElem?_eq_getElem h]
        exact congrArg some this
      have HT0 : ¬ b + 1 < hd.length → is.length = tn + 1 := fun h => by
        have := HTO.out
        unfold endOf at this
        rw [← HHD.out, List.getElem?_eq_none (by omega), fis_len] at this
        exact this
      have HTT1 := Lib.hid HT1
      have HTT0 := Lib.hid HT0
      generalize bnx (fis is) (tn + 1) = bx at *
      generalize nx (fis is) tn = nk at *
      have HCH : Hid (∃ hbv : Nat, hbv = hd[b]) := Lib.hid ⟨_, rfl⟩
      generalize hd[b] = fr0 at *
      clear hrv HRW HT1 HT0 htn HCH
      by_cases hb1 : b + 1 < hd.length
      · -- not the last one
        have hto := HTT1.out hb1
        have hb1' : (b : Int) + 1 < hd.length := by omega
        obtain ⟨hb9, ho9, e9, HB0⟩ := (HD2.out.fr hfr.out (by simp)).at1 (k := b + 1) (u := .int .i64 (tn + 1 : Nat)) (ints_at hto)
        cases e9
        have ht1 : (tn : Int) + 1 - 1 = tn := by omega
        have HTQ : Hid (((tn + 1 : Nat) : Int) = (tn : Int) + 1) := Lib.hid rfl
        rw [HTQ.out] at HB0
        clear hto
        go_upto_region 13 with fail
        have r5 := (Fr.refl no wr).alloc (.cells #[.int .i64 fr0, .int .i64 ((tn : Int) + 1), .slice none 0 0] 44)
        have HB5 := Lib.hid (heap_new wr (.cells #[.int .i64 fr0, .int .i64 ((tn : Int) + 1), .slice none 0 0] 44))
        have R5 := Lib.hid r5
        have cv5 := r5.cell cv (by simp)
        have hs5 : wr.heap.size < (wr.alloc (.cells #[.int .i64 fr0, .int .i64 ((tn : Int) + 1), .slice none 0 0] 44)).heap.size := by simp
        clear r5 cv ch HB0
        generalize wr.alloc (.cells #[.int .i64 fr0, .int .i64 ((tn : Int) + 1), .slice none 0 0] 44) = w5 at *
        go_wp2_with fail
        clear cv5
        obtain ⟨wz, hwz⟩ : ∃ x, x = wr := ⟨_, rfl⟩
        rw [← hwz] at hown hrows hfr HRV HB5 R5 hs5 ⊢
        clear hwz wr
        go_loopw [54] (fun z wr => ∃ (j : Nat) (fv : Value), j ≤ nk.length ∧ z = .int .i64 j ∧ Hid (wr.heap[wz.heap.size]? = some (.cells #[.int .i64 fr0, .int .i64 ((tn : Int) + 1), fv] 44 (0, 0))) ∧ Hid (wr.ownsRow (wz.heap.size + 1) 3 1 fv j (ints (nats ((nk.map (idx hd)).take j)))) ∧ Hid (Fr no wz wr)) (fun z _ => (nk.length - intOf z).toNat)
        case atStart => exact ⟨0, _, by omega, rfl, HB5, Lib.hid (World.ownsRow_nil _ _ _ _), R5⟩
        case round =>
          obtain ⟨j, fv, hj, rfl, hbx, hfv, hzr⟩ := hrel
          obtain ⟨fa, fc, rfl⟩ := owns_shape hfv.out
          have hsz : wz.heap.size < wr.heap.size := (Array.getElem?_eq_some_iff.1 hbx.out).1
          by_cases hjs : j < nk.length
          · have hjs' : (j : Int) < nk.length := by omega
            obtain ⟨kb, ko, rfl, ck⟩ := (HRV.out.fr hzr.out (by simp)).at1 (k := j) (u := .int .i64 (nk[j] : Nat)) (by simp [ints, nats, hjs])
            have HMS : Hid ((nk.map (idx hd)).take (j + 1) = (nk.map (idx hd)).take j ++ [idx hd nk[j]]) := Lib.hid (by rw [List.take_succ_eq_append_getElem (by simpa using hjs)]; simp)
            have HSE := Lib.hid (search_ok wr _ hd nk[j] (HD2.out.fr (hfr.out.trans hzr.out) (by simp)) HHS.out (by omega))
            generalize idx hd nk[j] = ix at *
            generalize nk[j] = kx at *
            go_wp2_with fail
            refine HSE.out.mono ?_
            rintro e w6 ⟨q, rfl, r6⟩
            have HB6 := Lib.hid (r6.heap hbx.out (by simp))
            have HV6 := Lib.hid (owns_fr hfv.out r6 (by simp))
            have R6 := Lib.hid (hzr.out.trans r6)
            have hs6 : wz.heap.size < w6.heap.size := Nat.lt_of_lt_of_le hsz r6.size
            obtain ⟨d0, d1, d2⟩ := cells3 HB6.out
            clear r6 ck HSE
            go_upto_region 18 with (at_builtin; (refine wpList_append_at rfl (.tmp 65) _ 37 rfl (wz.heap.size + 1) 3 (.int .i64 0) 1 8 Tryz.underlying37 Tryz.infoInt rfl (by decide) _ j _ rfl (HV6.out.alloc _) 1 _ (reads_one w6 _ _) int_one (by unfold maxLen; omega) (by omega) (by simp; omega) ?_); intro ga gc w7 ho7 hg7 hb7; have r7 := ((Fr.refl (fun b => (Value.slice fa j fc).ownBlock = some b) w6).alloc (.cells #[.int .i64 ix] 3)).trans ((Fr.refl (fun b => (Value.slice fa j fc).ownBlock = some b) _).grown hg7 (fun k hk => .inl hk)); have HB7 := Lib.hid (r7.heap HB6.out (fun h => by have := (HV6.out.lt _ h).1; omega)); have R7 := Lib.hid (R6.out.trans' r7 (fun i hi _ => by have := (HV6.out.lt i hi).1; omega)); have e2 : w7.cell? ⟨wz.heap.size, 2, none⟩ = some (.slice fa j fc) := (cells3 HB7.out).2.2; have f2 : w7.frozen? ⟨wz.heap.size, 2, none⟩ = false := frozen_of_heap HB7.out; clear r7 hg7 hb7 d0 d1 d2)
            have r8 : Fr (only [wz.heap.size]) w7 (w7.setCell ⟨wz.heap.size, 2, none⟩ (.slice ga (j + 1) gc)) := (Fr.refl _ w7).setCell _ _ (.inl (by simp))
            have HB8 : Hid ((w7.setCell ⟨wz.heap.size, 2, none⟩ (.slice ga (j + 1) gc)).heap[wz.heap.size]? = some (.cells #[.int .i64 fr0, .int .i64 ((tn : Int) + 1), .slice ga (j + 1) gc] 44 (0, 0))) := Lib.hid (by rw [heap_setCell HB7.out]; rfl)
            have HV8 : Hid ((w7.setCell ⟨wz.heap.size, 2, none⟩ (.slice ga (j + 1) gc)).ownsRow (wz.heap.size + 1) 3 1 (.slice ga (j + 1) gc) (j + 1) (ints (nats ((nk.map (idx hd)).take (j + 1))))) := Lib.hid (by rw [HMS.out, ints_snoc]; exact owns_fr ho7 r8 (fun b hb => by have := (ho7.lt b hb).1; simp; omega))
            have R8 := Lib.hid (R7.out.trans' r8 (fun i hi _ => by simp at hi; omega))
            clear r8 ho7 HB7 R7 e2 f2 HV6 HB6 R6
            go_wp2_with fail
            go_roundw
            case rel => exact ⟨j + 1, _, by omega, by go_num, HB8, HV8, R8⟩
            case measure => first | (simp [intOf]; done) | (simp [intOf]; omega)
          · obtain rfl : j = nk.length := by omega
            have HSO := Lib.hid (sorted_ok wr (wz.heap.size + 1) (.slice fa nk.length fc) (nats bx) (by
              have := hfv.out
              rw [List.take_of_length_le (by simp), ← HBX.out] at this
              rw [nats_len, HBX.out, List.length_map, ← HBX.out]
              exact this) (by rw [nats_len, HBX.out, List.length_map]; omega))
            rw [HBS.out, nats_len] at HSO
            have HBL : Hid (bx.length = nk.length) := Lib.hid (by rw [HBX.out, List.length_map])
            have HLT := Lib.hid hfv.out.lt
            obtain ⟨d0, d1, d2⟩ := cells3 hbx.out
            go_wp2_with fail
            refine HSO.out.mono ?_
            rintro e w9 ⟨y, rfl, ho9, hu9, r9⟩
            obtain ⟨ya, yc, rfl⟩ := owns_shape ho9
            have HB9 := Lib.hid (r9.heap hbx.out (fun h => by have := (HLT.out _ h).1; omega))
            have R9 := Lib.hid (hzr.out.trans' r9 (fun i hi _ => by have := (HLT.out i hi).1; omega))
            obtain ⟨e0, e1, e2⟩ := cells3 HB9.out
            have f2 : w9.frozen? ⟨wz.heap.size, 2, none⟩ = false := frozen_of_heap HB9.out
            clear d0 d1 d2
            go_upto_region 20 with fail
            have r10 : Fr (only [wz.heap.size]) w9 (w9.setCell ⟨wz.heap.size, 2, none⟩ (.slice ya bx.length yc)) := (Fr.refl _ w9).setCell _ _ (.inl (by simp))
            have HB10 : Hid ((w9.setCell ⟨wz.heap.size, 2, none⟩ (.slice ya bx.length yc)).heap[wz.heap.size]? = some (.cells #[.int .i64 fr0, .int .i64 ((tn : Int) + 1), .slice ya bx.length yc] 44 (0, 0))) := Lib.hid (by rw [heap_setCell HB9.out]; rfl)
            have HV10 := Lib.hid (owns_fr ho9 r10 (fun b hb => by have := (ho9.lt b hb).1; simp; omega))
            have R10 := Lib.hid (R9.out.trans' r10 (fun i hi _ => by simp at hi; omega))
            have HO10 := Lib.hid (owns_fr hown.out R10.out (by simp))
            have HRW10 := Lib.hid (hrows.out.fr R10.out (fun v hv b hb => by simp))
            have F10 := Lib.hid (hfr.out.trans R10.out)
            have hs10 : wz.heap.size < (w9.setCell ⟨wz.heap.size, 2, none⟩ (.slice ya bx.length yc)).heap.size := (Array.getElem?_eq_some_iff.1 HB10.out).1
            clear r10 r9 ho9 hu9 e0 e1 e2 f2 HB9 R9 hbx hfv hzr
            generalize w9.setCell ⟨wz.heap.size, 2, none⟩ (.slice ya bx.length yc) = w10 at *
            obtain ⟨e0, e1, e2⟩ := cells3 HB10.out
            have hw2 := R2.out.size
            have hwz := hfr.out.size
            go_wp2_with (at_builtin; (refine wpList_append_at rfl (.tmp 75) _ 39 rfl w2.heap.size 44 (.agg zeroBk) 3 40 Tryz.underlying39 Tryz.infoBk3 rfl (by decide) _ b _ rfl (HO10.out.alloc _) 1 _ (reads_3 w10 _ _ _ _) (three_one _ _ _ _ _) (by unfold maxLen; omega) (by omega) (by simp; omega) ?_); intro ga gc w11 ho11 hg11 hb11)
            have r11 := ((Fr.refl (fun b' => (Value.slice xa b xc).ownBlock = some b') w10).alloc (.cells #[.int .i64 fr0, .int .i64 ((tn : Int) + 1), .slice ya bx.length yc] 44)).trans ((Fr.refl (fun b' => (Value.slice xa b xc).ownBlock = some b') _).grown hg11 (fun k hk => .inl hk))
            have HX11 : Hid (w11.ownsRow w2.heap.size 44 3 (.slice ga (b + 1) gc) (b + 1) (bCells ((blks (fis is)).take (b + 1)) (vs ++ [.slice ya bx.length yc]))) := Lib.hid (by
              rw [HBN.out, bCells_snoc _ _ _ _ (by rw [HVL.out, List.length_take, blks_len, ← HHD.out]; omega)]
              simpa [HTQ.out] using ho11)
            have HV11 := Lib.hid (owns_fr HV10.out r11 (fun i hi h => by have := (HV10.out.lt i hi).1; have := (hown.out.lt i h).2; omega))
            have HR11 : Hid (Rows2 w11 w.heap.size (vs ++ [.slice ya bx.length yc]) (((blks (fis is)).take (b + 1)).map Bk.nx)) := Lib.hid (by
              rw [HBN.out, List.map_append]
              exact (HRW10.out.fr r11 (fun v hv i hi h => hsep.out v hv i hi h)).snoc HV11.out (by omega) (fun v hv i hi => by have := (hrows.out.lt v hv i hi).2; omega))
            have HS11 : Hid (∀ v ∈ vs ++ [Value.slice ya bx.length yc], ∀ b', v.ownBlock = some b' → (Value.slice ga (b + 1) gc).ownBlock ≠ some b') := Lib.hid (fun v hv i hi e => by
              rcases List.mem_append.1 hv with hv | hv
              · rcases hb11 i e with h | h
                · exact hsep.out v hv i hi h
                · have := (hrows.out.lt v hv i hi).2; simp at h; omega
              · rw [List.mem_singleton] at hv; subst hv
                have q1 := HV10.out.lt i hi
                rcases hb11 i e with h | h
                · have := (hown.out.lt i h).2; omega
                · simp at h; omega)
            have F11 := Lib.hid (F10.out.trans' r11 (fun i hi _ => by have := (hown.out.lt i hi).1; omega))
            clear r11 ho11 hg11 hb11 e0 e1 e2 HO10 HRW10 F10 HV10 HB10 R10 HV11
            go_wp2_with fail
            go_roundw
            case rel => exact ⟨b + 1, _, by omega, by go_num, by simp [HVL.out], HX11, HR11, HS11, F11⟩
            case measure => first | (simp [intOf]; done) | (simp [intOf]; omega)
      · -- the last one
        have hisl := HTT0.out hb1
        have hb1' : ¬ (b : Int) + 1 < hd.length := by omega
        have ht1 : (is.length : Int) - 1 = tn := by omega
        have HTQ : Hid (((tn + 1 : Nat) : Int) = (is.length : Int)) := Lib.hid (by rw [hisl])
        have HB0 : True := trivial
        clear hisl
        go_upto_region 13 with fail
        have r5 := (Fr.refl no wr).alloc (.cells #[.int .i64 fr0, .int .i64 (is.length : Int), .slice none 0 0] 44)
        have HB5 := Lib.hid (heap_new wr (.cells #[.int .i64 fr0, .int .i64 (is.length : Int), .slice none 0 0] 44))
        have R5 := Lib.hid r5
        have cv5 := r5.cell cv (by simp)
        have hs5 : wr.heap.size < (wr.alloc (.cells #[.int .i64 fr0, .int .i64 (is.length : Int), .slice none 0 0] 44)).heap.size := by simp
        clear r5 cv ch HB0
        generalize wr.alloc (.cells #[.int .i64 fr0, .int .i64 (is.length : Int), .slice none 0 0] 44) = w5 at *
        go_wp2_with fail
        clear cv5
        obtain ⟨wz, hwz⟩ : ∃ x, x = wr := ⟨_, rfl⟩
        rw [← hwz] at hown hrows hfr HRV HB5 R5 hs5 ⊢
        clear hwz wr
        go_loopw [54] (fun z wr => ∃ (j : Nat) (fv : Value), j ≤ nk.length ∧ z = .int .i64 j ∧ Hid (wr.heap[wz.heap.size]? = some (.cells #[.int .i64 fr0, .int .i64 (is.length : Int), fv] 44 (0, 0))) ∧ Hid (wr.ownsRow (wz.heap.size + 1) 3 1 fv j (ints (nats ((nk.map (idx hd)).take j)))) ∧ Hid (Fr no wz wr)) (fun z _ => (nk.length - intOf z).toNat)
        case atStart => exact ⟨0, _, by omega, rfl, HB5, Lib.hid (World.ownsRow_nil _ _ _ _), R5⟩
        case round =>
          obtain ⟨j, fv, hj, rfl, hbx, hfv, hzr⟩ := hrel
          obtain ⟨fa, fc, rfl⟩ := owns_shape hfv.out
          have hsz : wz.heap.size < wr.heap.size := (Array.getElem?_eq_some_iff.1 hbx.out).1
          by_cases hjs : j < nk.length
          · have hjs' : (j : Int) < nk.length := by omega
            obtain ⟨kb, ko, rfl, ck⟩ := (HRV.out.fr hzr.out (by simp)).at1 (k := j) (u := .int .i64 (nk[j] : Nat)) (by simp [ints, nats, hjs])
            have HMS : Hid ((nk.map (idx hd)).take (j + 1) = (nk.map (idx hd)).take j ++ [idx hd nk[j]]) := Lib.hid (by rw [List.take_succ_eq_append_getElem (by simpa using hjs)]; simp)
            have HSE := Lib.hid (search_ok wr _ hd nk[j] (HD2.out.fr (hfr.out.trans hzr.out) (by simp)) HHS.out (by omega))
            generalize idx hd nk[j] = ix at *
            generalize nk[j] = kx at *
            go_wp2_with fail
            refine HSE.out.mono ?_
            rintro e w6 ⟨q, rfl, r6⟩
            have HB6 := Lib.hid (r6.heap hbx.out (by simp))
            have HV6 := Lib.hid (owns_fr hfv.out r6 (by simp))
            have R6 := Lib.hid (hzr.out.trans r6)
            have hs6 : wz.heap.size < w6.heap.size := Nat.lt_of_lt_of_le hsz r6.size
            obtain ⟨d0, d1, d2⟩ := cells3 HB6.out
            clear r6 ck HSE
            go_upto_region 18 with (at_builtin; (refine wpList_append_at rfl (.tmp 65) _ 37 rfl (wz.heap.size + 1) 3 (.int .i64 0) 1 8 Tryz.underlying37 Tryz.infoInt rfl (by decide) _ j _ rfl (HV6.out.alloc _) 1 _ (reads_one w6 _ _) int_one (by unfold maxLen; omega) (by omega) (by simp; omega) ?_); intro ga gc w7 ho7 hg7 hb7; have r7 := ((Fr.refl (fun b => (Value.slice fa j fc).ownBlock = some b) w6).alloc (.cells #[.int .i64 ix] 3)).trans ((Fr.refl (fun b => (Value.slice fa j fc).ownBlock = some b) _).grown hg7 (fun k hk => .inl hk)); have HB7 := Lib.hid (r7.heap HB6.out (fun h => by have := (HV6.out.lt _ h).1; omega)); have R7 := Lib.hid (R6.out.trans' r7 (fun i hi _ => by have := (HV6.out.lt i hi).1; omega)); have e2 : w7.cell? ⟨wz.heap.size, 2, none⟩ = some (.slice fa j fc) := (cells3 HB7.out).2.2; have f2 : w7.frozen? ⟨wz.heap.size, 2, none⟩ = false := frozen_of_heap HB7.out; clear r7 hg7 hb7 d0 d1 d2)
            have r8 : Fr (only [wz.heap.size]) w7 (w7.setCell ⟨wz.heap.size, 2, none⟩ (.slice ga (j + 1) gc)) := (Fr.refl _ w7).setCell _ _ (.inl (by simp))
            have HB8 : Hid ((w7.setCell ⟨wz.heap.size, 2, none⟩ (.slice ga (j + 1) gc)).heap[wz.heap.size]? = some (.cells #[.int .i64 fr0, .int .i64 (is.length : Int), .slice ga (j + 1) gc] 44 (0, 0))) := Lib.hid (by rw [heap_setCell HB7.out]; rfl)
            have HV8 : Hid ((w7.setCell ⟨wz.heap.size, 2, none⟩ (.slice ga (j + 1) gc)).ownsRow (wz.heap.size + 1) 3 1 (.slice ga (j + 1) gc) (j + 1) (ints (nats ((nk.map (idx hd)).take (j + 1))))) := Lib.hid (by rw [HMS.out, ints_snoc]; exact owns_fr ho7 r8 (fun b hb => by have := (ho7.lt b hb).1; simp; omega))
            have R8 := Lib.hid (R7.out.trans' r8 (fun i hi _ => by simp at hi; omega))
            clear r8 ho7 HB7 R7 e2 f2 HV6 HB6 R6
            go_wp2_with fail
            go_roundw
            case rel => exact ⟨j + 1, _, by omega, by go_num, HB8, HV8, R8⟩
            case measure => first | (simp [intOf]; done) | (simp [intOf]; omega)
          · obtain rfl : j = nk.length := by omega
            have HSO := Lib.hid (sorted_ok wr (wz.heap.size + 1) (.slice fa nk.length fc) (nats bx) (by
              have := hfv.out
              rw [List.take_of_length_le (by simp), ← HBX.out] at this
              rw [nats_len, HBX.out, List.length_map, ← HBX.out]
              exact this) (by rw [nats_len, HBX.out, List.length_map]; omega))
            rw [HBS.out, nats_len] at HSO
            have HBL : Hid (bx.length = nk.length) := Lib.hid (by rw [HBX.out, List.length_map])
            have HLT := Lib.hid hfv.out.lt
            obtain ⟨d0, d1, d2⟩ := cells3 hbx.out
            go_wp2_with fail
            refine HSO.out.mono ?_
            rintro e w9 ⟨y, rfl, ho9, hu9, r9⟩
            obtain ⟨ya, yc, rfl⟩ := owns_shape ho9
            have HB9 := Lib.hid (r9.heap hbx.out (fun h => by have := (HLT.out _ h).1; omega))
            have R9 := Lib.hid (hzr.out.trans' r9 (fun i hi _ => by have := (HLT.out i hi).1; omega))
            obtain ⟨e0, e1, e2⟩ := cells3 HB9.out
            have f2 : w9.frozen? ⟨wz.heap.size, 2, none⟩ = false := frozen_of_heap HB9.out
            clear d0 d1 d2
            go_upto_region 20 with fail
            have r10 : Fr (only [wz.heap.size]) w9 (w9.setCell ⟨wz.heap.size, 2, none⟩ (.slice ya bx.length yc)) := (Fr.refl _ w9).setCell _ _ (.inl (by simp))
            have HB10 : Hid ((w9.setCell ⟨wz.heap.size, 2, none⟩ (.slice ya bx.length yc)).heap[wz.heap.size]? = some (.cells #[.int .i64 fr0, .int .i64 (is.length : Int), .slice ya bx.length yc] 44 (0, 0))) := Lib.hid (by rw [heap_setCell HB9.out]; rfl)
            have HV10 := Lib.hid (owns_fr ho9 r10 (fun b hb => by have := (ho9.lt b hb).1; simp; omega))
            have R10 := Lib.hid (R9.out.trans' r10 (fun i hi _ => by simp at hi; omega))
            have HO10 := Lib.hid (owns_fr hown.out R10.out (by simp))
            have HRW10 := Lib.hid (hrows.out.fr R10.out (fun v hv b hb => by simp))
            have F10 := Lib.hid (hfr.out.trans R10.out)
            have hs10 : wz.heap.size < (w9.setCell ⟨wz.heap.size, 2, none⟩ (.slice ya bx.length yc)).heap.size := (Array.getElem?_eq_some_iff.1 HB10.out).1
            clear r10 r9 ho9 hu9 e0 e1 e2 f2 HB9 R9 hbx hfv hzr
            generalize w9.setCell ⟨wz.heap.size, 2, none⟩ (.slice ya bx.length yc) = w10 at *
            obtain ⟨e0, e1, e2⟩ := cells3 HB10.out
            have hw2 := R2.out.size
            have hwz := hfr.out.size
            go_wp2_with (at_builtin; (refine wpList_append_at rfl (.tmp 75) _ 39 rfl w2.heap.size 44 (.agg zeroBk) 3 40 Tryz.underlying39 Tryz.infoBk3 rfl (by decide) _ b _ rfl (HO10.out.alloc _) 1 _ (reads_3 w10 _ _ _ _) (three_one _ _ _ _ _) (by unfold maxLen; omega) (by omega) (by simp; omega) ?_); intro ga gc w11 ho11 hg11 hb11)
            have r11 := ((Fr.refl (fun b' => (Value.slice xa b xc).ownBlock = some b') w10).alloc (.cells #[.int .i64 fr0, .int .i64 (is.length : Int), .slice ya bx.length yc] 44)).trans ((Fr.refl (fun b' => (Value.slice xa b xc).ownBlock = some b') _).grown hg11 (fun k hk => .inl hk))
            have HX11 : Hid (w11.ownsRow w2.heap.size 44 3 (.slice ga (b + 1) gc) (b + 1) (bCells ((blks (fis is)).take (b + 1)) (vs ++ [.slice ya bx.length yc]))) := Lib.hid (by
              rw [HBN.out, bCells_snoc _ _ _ _ (by rw [HVL.out, List.length_take, blks_len, ← HHD.out]; omega)]
              simpa [HTQ.out] using ho11)
            have HV11 := Lib.hid (owns_fr HV10.out r11 (fun i hi h => by have := (HV10.out.lt i hi).1; have := (hown.out.lt i h).2; omega))
            have HR11 : Hid (Rows2 w11 w.heap.size (vs ++ [.slice ya bx.length yc]) (((blks (fis is)).take (b + 1)).map Bk.nx)) := Lib.hid (by
              rw [HBN.out, List.map_append]
              exact (HRW10.out.fr r11 (fun v hv i hi h => hsep.out v hv i hi h)).snoc HV11.out (by omega) (fun v hv i hi => by have := (hrows.out.lt v hv i hi).2; omega))
            have HS11 : Hid (∀ v ∈ vs ++ [Value.slice ya bx.length yc], ∀ b', v.ownBlock = some b' → (Value.slice ga (b + 1) gc).ownBlock ≠ some b') := Lib.hid (fun v hv i hi e => by
              rcases List.mem_append.1 hv with hv | hv
              · rcases hb11 i e with h | h
                · exact hsep.out v hv i hi h
                · have := (hrows.out.lt v hv i hi).2; simp at h; omega
              · rw [List.mem_singleton] at hv; subst hv
                have q1 := HV10.out.lt i hi
                rcases hb11 i e with h | h
                · have := (hown.out.lt i h).2; omega
                · simp at h; omega)
            have F11 := Lib.hid (F10.out.trans' r11 (fun i hi _ => by have := (hown.out.lt i hi).1; omega))
            clear r11 ho11 hg11 hb11 e0 e1 e2 HO10 HRW10 F10 HV10 HB10 R10 HV11
            go_wp2_with fail
            go_roundw
            case rel => exact ⟨b + 1, _, by omega, by go_num, by simp [HVL.out], HX11, HR11, HS11, F11⟩
            case measure => first | (simp [intOf]; done) | (simp [intOf]; omega)
    · obtain rfl : b = hd.length := by omega
      have HQ : Hid (BlkOwn wr w.heap.size (.slice xa hd.length xc) (blks (fis is))) := Lib.hid (by
        have hl : (blks (fis is)).length = hd.length := by rw [blks_len, HHD.out]
        have h1 := hrows.out
        have h2 := hown.out
        rw [← hl, List.take_length] at h1 h2
        rw [← hl]
        exact ⟨vs, h1, owns_base h2 (fun k hk => by have := (h2.lt k hk).1; have := R2.out.size; omega), fun v hv i hi e => hsep.out v hv i hi (by rw [← hl]; exact e)⟩)
      have F := Lib.hid (R2.out.trans hfr.out)
      clear hrows hsep hown hfr
      go_wp2_with fail
      go_ret2
      exact BlkPost.good HQ.out F.out

end Go.Proofs.YtgofiaodncemiaaGreat

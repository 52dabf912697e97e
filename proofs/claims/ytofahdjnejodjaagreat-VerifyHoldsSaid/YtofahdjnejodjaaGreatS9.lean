/- sure.Masks. -/
import Derived.Test.YtofahdjnejodjaaGreatS8
set_option linter.unusedSimpArgs false
set_option linter.unusedVariables false
set_option linter.unusedSectionVars false
set_option linter.unnecessarySimpa false
namespace Go.Proofs.YtofahdjnejodjaaGreat
open Go.RowKit Go.Flow Go.Sure

attribute [local go_sem] Program.isFuncB Program.isSliceB

variable {w w' w'' w0 : World}

/-- the register that the k-th instruction writes -/
def wrN (is : List Ix) (k : Nat) : Int := match is[k]? with | some i => wrI i | none => -1
theorem wrN_at (is : List Ix) (k : Nat) (h : k < is.length) : wrN is k = wrI is[k] := by simp [wrN, h]
def masksCk (p : Int) (is : List Ix) : Int := if p < 0 ∨ 8 < p then 2 else flowCk is
/-- what Masks answers -/
def MasksPost (w : World) (ck : Int) (n p : Nat) (nx : Nat → List Nat) (wr : Nat → Int) (e : Ending) (w' : World) : Prop :=
  ∃ u, e = .returned (.tuple #[u, .int .i64 ck]) ∧ (ck ≠ 0 → u = .slice none 0 0) ∧ (ck = 0 → ∃ ms, Tells n p nx wr ms ∧ w'.ownsRow w.heap.size 30 1 u n (u64L ms)) ∧ Fr no w w'
theorem MasksPost.bad {ck : Int} {n p : Nat} {nx : Nat → List Nat} {wr : Nat → Int} (h : ck ≠ 0) (r : Fr no w w') : MasksPost w ck n p nx wr (.returned (.tuple #[.slice none 0 0, .int .i64 ck])) w' := ⟨_, rfl, fun _ => rfl, fun h0 => absurd h0 h, r⟩
theorem infoIntsX : (Tryz.prog.info? 45).map (fun i => (i.zero, i.size, i.bytes)) = some (some (.slice none 0 0), 1, 24) := by kernel_rfl

theorem ta_int (T : TypeId) (x : Value) (w : World) : Sem.run Tryz.prog (Instr.typeAssert (.iface 3 x) T 3 false) w = .ok x w := by kernel_rfl
def cntB (w : World) (g : Nat) : Nat := match w.heap[g]? with | some (.cells cs _ _) => (cs.toList.map (fun v => match v with | .int _ z => bitsOf z.toNat | _ => 0)).sum | _ => 0
theorem cntB_at {g : Nat} {ms : List Nat} {t : TypeId} {z : Nat × Nat} (h : w.heap[g]? = some (.cells (u64L ms).toArray t z)) : cntB w g = allBits ms := by
  unfold cntB
  rw [h]
  simp only [u64L, List.map_map, allBits]
  rfl
theorem QAt.lenq {B sb : Nat} {st : List Nat} (h : QAt w B sb st) : lenS w sb = st.length := by
  obtain ⟨x, h3, h4, -⟩ := h.at'
  obtain ⟨xa, xc, rfl⟩ := owns_shape h4
  exact lenS_at h3

theorem QAt.szB {B sb : Nat} {st : List Nat} (h : QAt w B sb st) : sb < w.heap.size := by
  obtain ⟨x, h3, -, -⟩ := h.at'
  exact (Array.getElem?_eq_some_iff.1 h3).1
theorem getD_le {ms : List Nat} (h : ∀ m ∈ ms, m ≤ (18446744073709551615 : Nat)) (y : Nat) : ms.getD y (18446744073709551615 : Nat) ≤ (18446744073709551615 : Nat) := by
  rw [List.getD_eq_getElem?_getD]
  cases hy : ms[y]? with
  | none => simp
  | some m => exact h m (List.mem_of_getElem? hy)
theorem wrN_lt {is : List Ix} (h : ∀ i ∈ is, ckOf i = 0) (y : Nat) : wrN is y < 64 := by
  unfold wrN
  cases hy : is[y]? with
  | none => simp
  | some i =>
    have := wr_rng (h i (List.mem_of_getElem? hy))
    simp only
    omega

set_option maxRecDepth 100000 in
set_option maxHeartbeats 8000000 in
theorem masks_ok (w : World) (sa : Option Addr) (c : Nat) (is : List Ix) (p : Int) (hin : CodeIn w sa is) (hlen : is.length ≤ 70) (hargs : ∀ i ∈ is, i.l.length ≤ 1000) (hN : ∀ i ∈ is, rng i.N) :
    Calls Tryz.prog 12 #[.slice sa is.length c, .int .i64 p] w (MasksPost w (masksCk p is) is.length p.toNat (nx (fis is)) (wrN is)) := by
  unfold masksCk
  by_cases hp0 : p < 0
  · go_enter Tryz.func12, Tryz.ntmps12
    rw [if_pos (.inl hp0)]
    go_wp2_with fail
    go_ret2
    exact MasksPost.bad (by omega) (Fr.refl _ _)
  by_cases hp8 : 8 < p
  · go_enter Tryz.func12, Tryz.ntmps12
    rw [if_pos (.inr hp8)]
    go_wp2_with fail
    go_ret2
    exact MasksPost.bad (by omega) (Fr.refl _ _)
  rw [if_neg (fun h => h.elim hp0 hp8)]
  obtain ⟨pn, rfl⟩ : ∃ pn : Nat, p = pn := ⟨p.toNat, by omega⟩
  rw [Int.toNat_natCast]
  have hpn : pn ≤ 8 := by omega
  have hpn' : ¬ ((8 : Int) < pn) := hp8
  have hpn0 : ¬ ((pn : Int) < 0) := hp0
  clear hp0 hp8
  have HNX := Lib.hid (fnext_ok w sa c is hin (by omega) hargs hN)
  have HFL : Hid (flowCk is = 0 → Flows (fis is)) := Lib.hid flowCk_flows
  have HCK : Hid (flowCk is = 0 → ∀ i ∈ is, ckOf i = 0) := Lib.hid (fun h => (joinCk_zero is (flowCk_join h)).1)
  have HIN := Lib.hid hin
  generalize flowCk is = ck at *
  clear hin hargs hN
  go_enter Tryz.func12, Tryz.ntmps12
  go_wp2_with fail
  refine HNX.out.mono ?_
  rintro e w1 ⟨u, rfl, hbad, hgood, r1⟩
  have R1 := Lib.hid r1
  have HBAD := Lib.hid hbad
  have HGOOD := Lib.hid hgood
  clear r1 hbad hgood HNX
  by_cases hj : ck = 0
  case neg =>
    obtain rfl := HBAD.out hj
    have e1 : (ck != 0) = true := by simpa using hj
    have HJ := Lib.hid hj
    clear hj
    go_wp2_with fail
    go_ret2
    exact MasksPost.bad HJ.out R1.out
  have HN0 := (HGOOD.out hj).nx
  have HF := Lib.hid (HFL.out hj)
  have HC := Lib.hid (HCK.out hj)
  subst hj
  clear HBAD HGOOD HFL HCK
  have hsh : ∃ a c', u = .slice a is.length c' := by
    obtain ⟨vs, h1, h2⟩ := HN0
    obtain ⟨a, c', rfl⟩ := h1.shape
    exact ⟨a, c', by rw [nxs_len]⟩
  obtain ⟨na, nc, rfl⟩ := hsh
  have HN1 := Lib.hid HN0
  have hpos : 0 < is.length := by have := HF.out.pos; rw [fis_len] at this; exact this
  have HNL : Hid (∀ k x, x ∈ nx (fis is) k → x < is.length) := Lib.hid (fun k x hx => by have := nx_lt HF.out hx; rwa [fis_len] at this)
  clear HN0
  have HIN1 := Lib.hid (HIN.out.fr R1.out)
  clear HIN
  go_upto_region 7 with ((refine wpList_make_any rfl (.tmp 38) (.tmp 38) 54 rfl w1.heap.size 45 (.slice none 0 0) 24 Tryz.underlying54 infoIntsX rfl .i64 .i64 is.length is.length is.length rfl rfl rfl rfl (by omega) (by unfold maxLen; omega) (Nat.le_refl _) ?_); intro w3 ho3 hg3)
  have q3 := (Fr.refl no w1).grown hg3 (by intro k hk; cases hk)
  have R3 := Lib.hid q3
  have hgl : w1.heap.size < w3.heap.size := (ho3.lt _ rfl).2
  obtain ⟨ab, hab⟩ : ∃ g, g = w1.heap.size := ⟨_, rfl⟩
  obtain ⟨B, hB⟩ : ∃ B, B = w1.heap.size + 1 := ⟨_, rfl⟩
  have HAB := Lib.hid hab
  have HBB := Lib.hid hB
  have HA3 : Hid (AhIn w3 B ab is.length (List.replicate is.length [])) := Lib.hid ⟨List.replicate is.length (.slice none 0 0), by rw [hab]; exact owns_full ho3, by simp, by simp, fun k v l h1 h2 => by
    rw [List.getElem?_replicate] at h1 h2
    split at h1 <;> simp at h1
    rename_i hk
    rw [if_pos hk] at h2
    simp at h2
    subst h1; subst h2
    exact ⟨rfl, .inl ⟨rfl, rfl⟩⟩, fun i j u v _ h1 h2 b hb => by
    rw [List.getElem?_replicate] at h1
    split at h1 <;> simp at h1
    subst h1
    simp [Value.ownBlock] at hb⟩
  rw [← hab] at hgl ⊢
  clear ho3 hg3 q3 hab hB
  go_wp2_with fail
  go_loopw [42] (fun x wr => ∃ (i : Nat) (als : List (List Nat)), x = .int .i64 i ∧ Hid (i ≤ is.length) ∧ Hid (AInv is.length (nx (fis is)) i 0 als) ∧ Hid (AhIn wr B ab is.length als) ∧ Hid (Fr no w1 wr)) (fun x _ => is.length - nOf x)
  case atStart => exact ⟨0, _, rfl, Lib.hid (by omega), Lib.hid (AInv.start _ _), HA3, R3⟩
  case round =>
    clear HA3 R3
    obtain ⟨i, als, rfl, hi0, HI, HA, HR⟩ := hrel
    by_cases hin : i = is.length
    case neg =>
      have hi : i < is.length := by have := hi0.out; omega
      have hi' : (i : Int) < is.length := by omega
      have hn1 := HN1.out
      obtain ⟨rv, h1, h2⟩ := hn1
      rw [nxs_len] at h1
      have hl := h1.len
      have hk : i < rv.length := by omega
      obtain ⟨nb, no', e1, e2⟩ := h1.at1 (k := i) (u := rv[i]) (List.getElem?_eq_getElem hk)
      have hrv := h2 i _ _ (List.getElem?_eq_getElem hk) (nxs_at is i hi)
      generalize rv[i] = v at *
      obtain ⟨va, vc, rfl⟩ := hrv.shape
      have HRV1 := Lib.hid hrv
      have c2 := HR.out.cell e2 (by simp)
      subst e1
      have HI0 := Lib.hid hi
      have hnf := nx_few (fis is) i
      clear h1 h2 hl hk hrv e2 hin
      obtain ⟨wz, hwz⟩ : ∃ x, x = wr := ⟨_, rfl⟩
      subst hwz
      go_wp2_with fail
      go_loopw [49] (fun x wr => ∃ (t : Nat) (als : List (List Nat)), x = .int .i64 t ∧ Hid (t ≤ (nx (fis is) i).length) ∧ Hid (AInv is.length (nx (fis is)) i t als) ∧ Hid (AhIn wr B ab is.length als) ∧ Hid (Fr no w1 wr)) (fun x _ => (nx (fis is) i).length - nOf x)
      case atStart => exact ⟨0, als, rfl, Lib.hid (by omega), HI, HA, HR⟩
      case round =>
        clear HI HA HR
        obtain ⟨t, als, rfl, ht0, HI, HA, HR⟩ := hrel
        by_cases htn : t = (nx (fis is) i).length
        · have HIn := Lib.hid (HI.out.next htn (by omega))
          have HI1 : Hid (i + 1 ≤ is.length) := Lib.hid hi
          subst htn
          go_wp2_with fail
          go_roundw
          case rel => exact ⟨i + 1, als, by simp, HI1, HIn, HA, HR⟩
          case measure => simp [nOf]; omega
        · have htl : t < (nx (fis is) i).length := by have := ht0.out; omega
          have htl' : (t : Int) < (nx (fis is) i).length := by omega
          obtain ⟨vb, vo, rfl, e3⟩ := (HRV1.out.fr HR.out (by simp)).at1 (k := t) (u := .int .i64 ((nx (fis is) i)[t] : Nat)) (by simp [ints, nats, htl])
          have HJ : Hid ((nx (fis is) i)[t]? = some (nx (fis is) i)[t]) := Lib.hid (List.getElem?_eq_getElem htl)
          have hjn := HNL.out i _ (List.getElem_mem htl)
          have HT1 : Hid (t + 1 ≤ (nx (fis is) i).length) := Lib.hid htl
          generalize (nx (fis is) i)[t] = j at *
          have hjn' : (j : Int) < is.length := by omega
          obtain ⟨vs, g1, g2, g3⟩ := HA.out
          have hjv : j < vs.length := by omega
          have hja : j < als.length := by rw [HI.out.len]; exact hjn
          have HV : Hid (vs[j]? = some vs[j]) := Lib.hid (List.getElem?_eq_getElem hjv)
          have HL : Hid (als[j]? = some als[j]) := Lib.hid (List.getElem?_eq_getElem hja)
          have hfew := HI.out.few als[j] (List.getElem_mem hja)
          have ho := g3.own j _ _ HV.out HL.out
          have c3 : wr.cell? ⟨ab, j, none⟩ = some vs[j] := cell_of_heap g1 (by simpa using HV.out)
          generalize vs[j] = v at *
          generalize als[j] = l at *
          obtain ⟨xa, xc, rfl⟩ := owns_shape ho
          have G1 := Lib.hid g1
          have G2 := Lib.hid g2
          have G3 := Lib.hid g3
          have HO := Lib.hid ho
          have HAIN := Lib.hid (HI.out.one HJ.out HL.out)
          have hBw : B ≤ wr.heap.size := by have := HBB.out; have := HAB.out; have := (Array.getElem?_eq_some_iff.1 g1).1; omega
          have RA : Fr no wr (wr.alloc (.cells #[.int .i64 i] 3)) := (Fr.refl _ wr).alloc _
          have HOA := Lib.hid (owns_fr ho RA (fun k hk => by simp))
          have HRA : Hid (Reads (wr.alloc (.cells #[.int .i64 i] 3)) (.slice (some ⟨wr.heap.size, 0, none⟩) 1 1) 1 1 (ints (nats [i]))) := Lib.hid (owns_reads (owns_row wr [.int .i64 i] 3 (by simp)))
          have RA' := Lib.hid RA
          have hlB : l.length ≤ 1000 := by omega
          have HXX : Hid (∀ w8, (wr.alloc (.cells #[.int .i64 i] 3)).grownBy w8 (Value.slice xa l.length xc).ownBlock → w8.heap[ab]? = some (.cells vs.toArray 45 (0, 0))) := Lib.hid (fun w8 hg8 => ((Fr.refl (fun k => (Value.slice xa l.length xc).ownBlock = some k) _).grown hg8 (fun k hk => .inl hk)).heap (RA.heap g1 (by simp)) (fun hk => by have := (ho.lt ab hk).1; have := HAB.out; have := HBB.out; omega))
          clear HA HI hjv hja hfew ho g1 g2 g3 RA htn ht0
          go_wp2_with ((refine wpList_append_at rfl (.tmp 58) (.tmp 60) 45 rfl B 3 (.int .i64 0) 1 8 Tryz.underlying45 Tryz.infoInt rfl (by decide) (.slice xa l.length xc) l.length (ints (nats l)) rfl HOA.out 1 (ints (nats [i])) HRA.out (ints_one' _) (by unfold maxLen; omega) (by omega) (by simp; omega) ?_); intro ga gc w8 ho8 hg8 hb8; have HG8 := Lib.hid hg8; have HO8 := Lib.hid ho8; have HB8 := Lib.hid hb8; have HX8 := Lib.hid (HXX.out w8 hg8); have x8 := cell_of_heap HX8.out (by simpa using HV.out); have f8 := frozen_of_heap (o := j) HX8.out; clear ho8 hg8 hb8)
          have r9 : Fr (only [ab]) w8 (w8.setCell ⟨ab, j, none⟩ (.slice ga (l.length + 1) gc)) := (Fr.refl _ w8).setCell _ _ (.inl (by simp))
          have HAA : Hid (AhIn (w8.setCell ⟨ab, j, none⟩ (.slice ga (l.length + 1) gc)) B ab is.length (als.set j (l ++ [i]))) := Lib.hid ⟨vs.set j (.slice ga (l.length + 1) gc), by rw [heap_setCell HX8.out]; simp, by rw [List.length_set]; exact G2.out,
            ((G3.out.fr RA'.out (fun v hv b hb => by simp)).app HV.out HL.out HO8.out HG8.out HB8.out).fr r9 (fun v hv b hb => by
              have h1 := (((G3.out.fr RA'.out (fun v hv b hb => by simp)).app HV.out HL.out HO8.out HG8.out HB8.out).lt v hv b hb).1
              have := HAB.out; have := HBB.out
              simp; omega)⟩
          have HF9 : Hid (Fr no w1 (w8.setCell ⟨ab, j, none⟩ (.slice ga (l.length + 1) gc))) := Lib.hid (((HR.out.trans RA'.out).grown HG8.out (fun k hk => by have := (HO.out.lt k hk).1; have := HBB.out; exact .inr (by omega))).setCell _ _ (.inr (by have := HAB.out; show w1.heap.size ≤ ab; omega)))
          go_roundw
          case rel => exact ⟨t + 1, _, by simp, HT1, HAIN, HAA, HF9⟩
          case measure => simp [nOf]; omega
    case pos =>
      subst hin
      have HALm : Hid (∀ (j : Nat) (l : List Nat), als[j]? = some l → ∀ k, k ∈ l ↔ k < is.length ∧ j ∈ nx (fis is) k) := Lib.hid (fun j l hl k => HI.out.done hl k)
      have HALn : Hid (als.length = is.length) := Lib.hid HI.out.len
      have HALf : Hid (∀ l ∈ als, l.length ≤ 1000) := Lib.hid (fun l hl => by have := HI.out.few l hl; omega)
      obtain ⟨z, hz⟩ : ∃ z : Nat, z = 2 ^ pn := ⟨_, rfl⟩
      obtain ⟨fm, hfm⟩ : ∃ fm : Nat, fm = z - 1 := ⟨_, rfl⟩
      have hz1 : 1 ≤ z := by rw [hz]; exact Nat.one_le_two_pow
      have hz2 : z ≤ (18446744073709551615 : Nat) := by rw [hz]; exact pow_le pn (by omega)
      have ez : IntKind.u64.wrap ((2 : Int) ^ pn) = (z : Int) := by rw [hz]; exact pow_wrap pn (by omega)
      have efm : IntKind.u64.wrap ((z : Int) - 1) = (fm : Int) := by rw [IntKind.wrap_u64]; omega
      have hfml : fm ≤ (18446744073709551615 : Nat) := by omega
      have HFM : Hid (fm = 2 ^ pn - 1) := Lib.hid (by rw [hfm, hz])
      clear hz hfm hz1 HI hi0
      obtain ⟨w4, hw4⟩ : ∃ x, x = wr := ⟨_, rfl⟩
      subst hw4
      have h4 : ab < w4.heap.size := by obtain ⟨vs, g1, -, -⟩ := HA.out; exact (Array.getElem?_eq_some_iff.1 g1).1
      go_wp2_with fail
      refine (repeat_ok (w4.alloc (.cells #[.int .u64 18446744073709551615] 30)) w4.heap.size 18446744073709551615 is.length (cell_of_heap (heap_new w4 _) rfl) hpos (by omega)).mono ?_
      rintro e w5 ⟨rfl, hg5, r5⟩
      have R5 : Hid (Fr no w4 w5) := Lib.hid (((Fr.refl no w4).alloc _).trans r5)
      have hs5 : (w4.alloc (.cells #[.int .u64 18446744073709551615] 30)).heap.size = w4.heap.size + 1 := by simp
      rw [hs5] at hg5
      obtain ⟨ib, hib⟩ : ∃ ib, ib = w4.heap.size + 1 := ⟨_, rfl⟩
      rw [← hib] at hg5
      have HIB := Lib.hid hib
      have HG5 : Hid (w5.heap[ib]? = some (.cells (u64L (List.replicate is.length (18446744073709551615 : Nat))).toArray 30 (0, 0))) := Lib.hid (by rw [hg5]; simp [u64L])
      have hi5 : ib < w5.heap.size := (Array.getElem?_eq_some_iff.1 hg5).1
      rw [hs5, ← hib]
      clear hs5 hg5 r5 hib ez efm
      go_wp2_with fail
      have q6 := ((Fr.refl no w5).alloc (.cells #[.int .i64 0] 3)).alloc (.cells #[.slice (some ⟨w5.heap.size, 0, none⟩) 1 1] 68)
      have HQ6 : Hid (QAt ((w5.alloc (.cells #[.int .i64 0] 3)).alloc (.cells #[.slice (some ⟨w5.heap.size, 0, none⟩) 1 1] 68)) w5.heap.size (w5.heap.size + 1) [0]) := Lib.hid ⟨_, heap_new2' w5 _ _, (owns_row w5 [.int .i64 0] 3 (by simp)).alloc _, by simp [Value.ownBlock]⟩
      have HG6 := Lib.hid (q6.heap HG5.out (by simp))
      have R6 := Lib.hid (R5.out.trans q6)
      have HQS : Hid (w4.heap.size < w5.heap.size) := Lib.hid (by have := HIB.out; omega)
      have HM0 : Hid (MInv is.length pn (nx (fis is)) (wrN is) (List.replicate is.length (18446744073709551615 : Nat)) [0]) := Lib.hid (MInv.start hpos)
      have HB0 : Hid ([0].length + 2 * allBits (List.replicate is.length (18446744073709551615 : Nat)) ≤ 128 * is.length + 1) := Lib.hid (by rw [bits_full]; simp; omega)
      have hQs : w5.heap.size + 1 < w5.heap.size + 2 := by omega
      generalize (w5.alloc (.cells #[.int .i64 0] 3)).alloc (.cells #[.slice (some ⟨w5.heap.size, 0, none⟩) 1 1] 68) = w6 at *
      clear q6 HG5 R5 hQs
      generalize w5.heap.size = Q at *
      have HA4 := HA
      have HR4 := HR
      clear HA HR
      go_loopw [] (fun wr => ∃ (ms q : List Nat), Hid (MInv is.length pn (nx (fis is)) (wrN is) ms q) ∧ Hid (wr.heap[ib]? = some (.cells (u64L ms).toArray 30 (0, 0))) ∧ Hid (QAt wr Q (Q + 1) q) ∧ Hid (q.length + 2 * allBits ms ≤ 128 * is.length + 1) ∧ Hid (Fr no w4 wr)) (fun wr => 2 * cntB wr ib + lenS wr (Q + 1))
      case atStart => exact ⟨_, _, HM0, HG6, HQ6, HB0, R6⟩
      case round =>
        clear HM0 HG6 HQ6 HB0 R6
        obtain ⟨ms, q, HM, HG, HQ, HB, HRR⟩ := hrel
        obtain ⟨wo, hwo⟩ : ∃ x, x = wr := ⟨_, rfl⟩
        subst hwo
        obtain ⟨x, hx1, hx2, hx3⟩ := HQ.out.at'
        obtain ⟨xa, xc, rfl⟩ := owns_shape hx2
        have c1 : wo.cell? ⟨Q + 1, 0, none⟩ = some (.slice xa q.length xc) := cell_of_heap hx1 rfl
        have HLS := Lib.hid HQ.out.lenq
        have HCB := Lib.hid (cntB_at HG.out)
        clear hx1 hx2 hx3
        by_cases hq0 : q = []
        · subst hq0
          have HT := Lib.hid (HM.out.tells hpos HNL.out)
          have HOW : Hid (wo.ownsRow w.heap.size 30 1 (.slice (some ⟨ib, 0, none⟩) is.length is.length) is.length (u64L ms)) := Lib.hid (full_owns HG.out (by rw [u64L_len]; exact HM.out.len) (by have := R1.out.size; have := HAB.out; have := HIB.out; omega) (by unfold maxLen; omega))
          have HFF : Hid (Fr no w wo) := Lib.hid (R1.out.trans (HR4.out.trans HRR.out))
          clear HM HG HQ HB HRR HLS HCB
          go_wp2_with fail
          refine (wlen_ok wo xa 0 xc).mono ?_
          rintro e w7 ⟨rfl, rfl⟩
          go_wp2_with fail
          go_ret2
          exact ⟨_, rfl, fun h => absurd rfl h, fun _ => ⟨ms, HT.out, HOW.out⟩, HFF.out⟩
        · have hqp : 0 < q.length := List.length_pos_iff.2 hq0
          have hqp' : (0 : Int) < q.length := by omega
          have hqm : q.length ≤ 10000 := by have := HB.out; omega
          clear hq0
          go_wp2_with fail
          refine (wlen_ok wo xa q.length xc).mono ?_
          rintro e w7 ⟨rfl, rfl⟩
          go_wp2_with fail
          refine (hpop_ok wo Q (Q + 1) q HQ.out (by omega) hqp hqm).mono ?_
          rintro e w7 ⟨i, q1, rfl, hq1, hl1, hm1, r7⟩
          have HQ1 := Lib.hid hq1
          have HL1 := Lib.hid hl1
          have HM1 := Lib.hid hm1
          have hi : i < is.length := HM.out.q i ((hm1 i).2 (.inl rfl))
          have hi' : (i : Int) < is.length := by omega
          have HG7 := Lib.hid (r7.heap HG.out (by show ¬ Q ≤ ib; omega))
          have R7 := Lib.hid (HRR.out.trans' r7 (fun k hk _ => by have : Q ≤ k := hk; have := HQS.out; omega))
          clear hq1 hl1 hm1 r7 c1 hqp hqp' HQ HG HRR
          obtain ⟨vs, g1, g2, g3⟩ := HA4.out.fr R7.out (by simp) (by simp)
          have hiv : i < vs.length := by omega
          have hia : i < als.length := by rw [HALn.out]; exact hi
          have HV : Hid (vs[i]? = some vs[i]) := Lib.hid (List.getElem?_eq_getElem hiv)
          have HL : Hid (als[i]? = some als[i]) := Lib.hid (List.getElem?_eq_getElem hia)
          have hfew := HALf.out als[i] (List.getElem_mem hia)
          have ho := g3.own i _ _ HV.out HL.out
          have c3 : w7.cell? ⟨ab, i, none⟩ = some vs[i] := cell_of_heap g1 (by simpa using HV.out)
          generalize vs[i] = v at *
          generalize als[i] = l at *
          obtain ⟨va, vc, rfl⟩ := owns_shape ho
          have HLR := Lib.hid (owns_reads ho)
          have HLM := Lib.hid (HALm.out i l HL.out)
          have him : i < ms.length := by rw [HM.out.len]; exact hi
          have HMI : Hid (ms[i]? = some ms[i]) := Lib.hid (List.getElem?_eq_getElem him)
          have HMK : Hid (∀ r, r < 64 → ((meetL (18446744073709551615 : Nat) (fromL pn (wrN is) ms l i)).testBit r = false ↔ Src is.length pn (nx (fis is)) (wrN is) ms r i)) := Lib.hid (fun r hr => from_un hr HLM.out)
          generalize ms[i] = mi at *
          have cmi : Hid (∀ w' : World, w'.heap[ib]? = some (.cells (u64L ms).toArray 30 (0, 0)) → w'.cell? ⟨ib, i, none⟩ = some (.int .u64 mi)) := Lib.hid (fun w' h => cell_of_heap h (by have := HMI.out; simp [u64L, this]))
          clear g1 g2 g3 hiv hia ho him HV HL
          unfold numI
          have hTA := fun T => ta_int T (.int .i64 i) w7
          by_cases h0 : i = 0
          · have e0 : ((i : Int) == 0) = true := by simp [h0]
            have HPRE : Hid ([fm] = if i = 0 then [2 ^ pn - 1] else []) := Lib.hid (by rw [if_pos h0, HFM.out])
            have HNIL : Hid ((w7.alloc (.cells #[.int .u64 fm] 30)).ownsRow w7.heap.size 30 1 (.slice none 0 0) 0 []) := Lib.hid ⟨rfl, .inl ⟨rfl, rfl⟩⟩
            have HRF : Hid (Reads (w7.alloc (.cells #[.int .u64 fm] 30)) (.slice (some ⟨w7.heap.size, 0, none⟩) 1 1) 1 1 (u64L [fm])) := Lib.hid (reads_one w7 _ _)
            clear h0
            go_wp2_with ((refine wpList_append_any rfl (.tmp 85) (.tmp 87) 26 rfl w7.heap.size 30 (.int .u64 0) 1 8 Tryz.underlying26 Tryz.infoU64 rfl (by decide) (.slice none 0 0) 0 [] rfl HNIL.out 1 (u64L [fm]) HRF.out (by simp [u64L, Value.oneCell']) (by unfold maxLen; omega) (by omega) (by simp) ?_); intro ga gc w8 ho8 hg8; have r8 := ((Fr.refl no w7).alloc (.cells #[.int .u64 fm] 30)).grown hg8 (by intro k hk; cases hk); have c8 := r8.cell c3 (by simp); have R8S := Lib.hid r8; have HO8S := Lib.hid ho8; clear r8 ho8 hg8)
            have HOS : Hid (w8.ownsRow w7.heap.size 30 1 (.slice ga [fm].length gc) [fm].length (u64L [fm])) := Lib.hid (by simpa using HO8S.out)
            clear HNIL HRF HO8S c8 c3 e0
            go_loopw [94, 17] (fun x y wr => ∃ (k : Nat) (fl : List Nat) (fa : Option Addr) (fc : Nat), x = .int .i64 k ∧ y = .slice fa fl.length fc ∧ Hid (k ≤ l.length) ∧ Hid (fl = [fm] ++ (l.take k).map (fun k => bhd (ms.getD k (18446744073709551615 : Nat)) (wrN is k) ||| fm)) ∧ Hid (wr.ownsRow w7.heap.size 30 1 (.slice fa fl.length fc) fl.length (u64L fl)) ∧ Hid (Fr no w7 wr)) (fun x _ _ => l.length - nOf x)
            case atStart => exact ⟨0, [fm], ga, gc, rfl, rfl, Lib.hid (by omega), Lib.hid (by simp), HOS, R8S⟩
            case round =>
              clear HOS R8S
              obtain ⟨k, fl, fa, fc, rfl, rfl, hk0, hfl, HO, HRI⟩ := hrel
              by_cases hkl : k = l.length
              case neg =>
                have hkk : k < l.length := by have := hk0.out; omega
                have hkk' : (k : Int) < l.length := by omega
                have HK1 : Hid (k + 1 ≤ l.length) := Lib.hid hkk
                have hfll : fl.length ≤ 2000 := by rw [hfl.out]; simp; omega
                obtain ⟨lb, lo, rfl, e3⟩ := (HLR.out.fr HRI.out (by simp)).at1 (k := k) (u := .int .i64 (l[k] : Nat)) (by first | (simp [ints, nats, hkk]; done) | (simp [ints, nats, hkk]; rfl))
                have hkn : l[k] < is.length := ((HLM.out l[k]).1 (List.getElem_mem hkk)).1
                have HTK : Hid (l.take (k + 1) = l.take k ++ [l[k]]) := Lib.hid (List.take_succ_eq_append_getElem hkk)
                generalize l[k] = kk at *
                have hkn' : (kk : Int) < is.length := by omega
                have hkm : kk < ms.length := by rw [HM.out.len]; exact hkn
                have hml := HM.out.lt ms[kk] (List.getElem_mem hkm)
                have HGD : Hid (ms.getD kk (18446744073709551615 : Nat) = ms[kk]) := Lib.hid (by simp [List.getD_eq_getElem?_getD, hkm])
                have cm : wr.cell? ⟨ib, kk, none⟩ = some (.int .u64 (ms[kk] : Nat)) := cell_of_heap (HRI.out.heap HG7.out (by simp)) (by simp [u64L, hkm])
                generalize ms[kk] = m at *
                obtain ⟨b1, o1, u1, rfl, h1w⟩ := HIN1.out kk hkn
                have HB1 : Hid (b1 < w1.heap.size) := Lib.hid (World.block_lt_of_cell? w1 _ (h1w.cell 0 _ rfl))
                have h1 := h1w.fr (HR4.out.trans (R7.out.trans HRI.out))
                clear h1w
                obtain ⟨i1, hi1⟩ : ∃ i, i = is[kk] := ⟨_, rfl⟩
                rw [← hi1] at h1
                have hck : ckOf i1 = 0 := by rw [hi1]; exact HC.out _ (List.getElem_mem hkn)
                have HWR : Hid (wrN is kk = wrI i1) := Lib.hid (by rw [wrN_at is kk hkn, hi1])
                have hwr := wr_rng hck
                have HBE := Lib.hid (fun w => behind_ok w m i1 u1 hml hwr)
                have hbl : bhd m (wrI i1) ≤ (18446744073709551615 : Nat) := bhd_le hml (by omega)
                have HEX : Hid (bhd (ms.getD kk (18446744073709551615 : Nat)) (wrN is kk) ||| fm = bhd m (wrI i1) ||| fm) := Lib.hid (by rw [HGD.out, HWR.out])
                generalize bhd m (wrI i1) = bz at *
                have eor := or_u64 bz fm hbl hfml
                generalize bz ||| fm = z2 at *
                have A1 := Lib.hid (h1.at_.fr ((Fr.refl no wr).drew))
                have hcm := Lib.hid (((Fr.refl no wr).drew).cell cm (by simp))
                have HO1 := Lib.hid (owns_fr HO.out ((Fr.refl no wr).drew) (fun k hk => by simp))
                have HRI1 := Lib.hid (HRI.out.drew)
                clear hkl hk0 hkm hml hi1 hck h1 HWR hwr hbl cm HO HRI HGD hkn
                obtain ⟨a1, a2, a3, a4, a5, a6⟩ := i1
                unfold Ix.cells at A1
                unfold insV at HBE
                dsimp only at A1 HBE
                go_upto_region 27 with fail
                refine Lex.region [9, 12, 13] [14, 1] (by kernel_rfl) (by kernel_rfl) ?_
                refine Lex.opens (fun w' => w'.cell? ⟨ib, kk, none⟩ = some (.int .u64 m) ∧ At w' b1 (o1 + kk * 6) [.int .i64 a1, .int .i64 a2, .int .i64 a3, .int .i64 a4, .int .i64 a5, u1]) (⟨hcm.out, A1.out⟩) ?_
                repeat (first
                  | (refine Lex.skips (by rfl) ?_; (try simp only [Act.put, List.setIfInBounds_toArray, List.set_cons_zero, List.set_cons_succ]))
                  | (refine Lex.into (by rfl) (by rfl) _ _ rfl _ _ rfl _ _ (fun w' h => h.2) Tryz.underlying47 rfl (by rw [Tryz.infoIns]; rfl) ?_; (try simp only [Act.put, List.setIfInBounds_toArray, List.set_cons_zero, List.set_cons_succ]))
                  | (refine Lex.quiet (v := ?_) (by rfl) (by rfl) ?_ ?_; rotate_left; (focus (intro w' hS'; go_simp; try rfl)); (try simp only [Act.put, List.setIfInBounds_toArray, List.set_cons_zero, List.set_cons_succ])))
                refine Lex.loud (by rfl) (by rfl) ?_
                intro K' hK'
                go_simp
                refine (HBE.out _).mono ?_
                rintro e w2 ⟨rfl, r2⟩
                have hcm2 := Lib.hid (r2.cell hcm.out (by simp))
                have A2 := Lib.hid (A1.out.fr r2)
                have HO2 := Lib.hid (owns_fr HO1.out r2 (fun k hk => by simp))
                have HRI2 := Lib.hid (HRI1.out.trans r2)
                clear r2 hcm A1 HO1 HRI1
                refine hK' _ _ (⟨hcm2.out, A2.out⟩) ?_
                clear hK'
                try simp only [Act.put, List.setIfInBounds_toArray, List.set_cons_zero, List.set_cons_succ]
                repeat (first
                  | (refine Lex.skips (by rfl) ?_; (try simp only [Act.put, List.setIfInBounds_toArray, List.set_cons_zero, List.set_cons_succ]))
                  | (refine Lex.quiet (v := ?_) (by rfl) (by rfl) ?_ ?_; rotate_left; (focus (intro w' hS'; go_simp; try rfl)); (try simp only [Act.put, List.setIfInBounds_toArray, List.set_cons_zero, List.set_cons_succ])))
                refine Lex.loud (by rfl) (by rfl) ?_
                intro K' hK'
                go_simp
                have q3 : Fr no w2 (w2.alloc (.cells #[.int .u64 z2] 30)) := (Fr.refl _ _).alloc _
                have hcm3 := Lib.hid (q3.cell hcm2.out (by simp))
                have A3 := Lib.hid (A2.out.fr q3)
                have HO3 := Lib.hid (owns_fr HO2.out q3 (fun k hk => by simp))
                have HRI3 := Lib.hid (HRI2.out.trans q3)
                have HR3 : Hid (Reads (w2.alloc (.cells #[.int .u64 z2] 30)) (.slice (some ⟨w2.heap.size, 0, none⟩) 1 1) 1 1 (u64L [z2])) := Lib.hid (reads_one w2 _ _)
                clear q3 hcm2 A2 HO2 HRI2
                generalize w2.alloc (.cells #[.int .u64 z2] 30) = w3' at *
                refine hK' _ _ (⟨hcm3.out, A3.out⟩) ?_
                clear hK'
                try simp only [Act.put, List.setIfInBounds_toArray, List.set_cons_zero, List.set_cons_succ]
                repeat (first
                  | (refine Lex.skips (by rfl) ?_; (try simp only [Act.put, List.setIfInBounds_toArray, List.set_cons_zero, List.set_cons_succ]))
                  | (refine Lex.quiet (v := ?_) (by rfl) (by rfl) ?_ ?_; rotate_left; (focus (intro w' hS'; go_simp; try rfl)); (try simp only [Act.put, List.setIfInBounds_toArray, List.set_cons_zero, List.set_cons_succ])))
                refine Lex.loud (by rfl) (by rfl) ?_
                intro K' hK'
                refine wp_append_at (.tmp 98) (.tmp 110) 26 rfl w7.heap.size 30 (.int .u64 0) 1 8 Tryz.underlying26 Tryz.infoU64 rfl (by decide) (.slice fa fl.length fc) fl.length (u64L fl) (by simp [Act.eval]) HO3.out 1 (u64L [z2]) HR3.out (by simp [u64L, Value.oneCell']) (by unfold maxLen; omega) (by omega) HRI3.out.size ?_
                intro ga gc w8 ho8 hg8 hb8
                have HO8 : Hid (w8.ownsRow w7.heap.size 30 1 (.slice ga (fl.length + 1) gc) (fl.length + 1) (u64L (fl ++ [z2]))) := Lib.hid (by simpa [u64L] using ho8)
                have R8 := Lib.hid (HRI3.out.grown hg8 (fun k hk => .inr (HO3.out.lt k hk).1))
                have hcm8 : w8.cell? ⟨ib, kk, none⟩ = some (.int .u64 m) := by
                  have r := (Fr.refl (fun k => (Value.slice fa fl.length fc).ownBlock = some k) w3').grown hg8 (fun k hk => .inl hk)
                  refine r.cell hcm3.out (fun hk => ?_)
                  have := (HO3.out.lt _ hk).1
                  have := (Array.getElem?_eq_some_iff.1 HG7.out).1
                  simp at *
                  omega
                have A8 : At w8 b1 (o1 + kk * 6) [.int .i64 a1, .int .i64 a2, .int .i64 a3, .int .i64 a4, .int .i64 a5, u1] := by
                  refine A3.out.frx ((Fr.refl (fun k => (Value.slice fa fl.length fc).ownBlock = some k) w3').grown hg8 (fun k hk => .inl hk)) (fun hk => ?_)
                  have h1 := (HO3.out.lt _ hk).1
                  have h2 := HB1.out
                  have h3 := HR4.out.size
                  have h5 := R7.out.size
                  omega
                clear ho8 hg8 hb8 HO3 HRI3 HR3 hcm3 A3
                refine hK' _ _ ⟨hcm8, A8⟩ ?_
                clear hK'
                try simp only [Act.put, List.setIfInBounds_toArray, List.set_cons_zero, List.set_cons_succ]
                clear hcm8 A8
                refine Lex.done ?_
                refine Lex.opens (fun _ => True) (trivial) ?_
                repeat (first
                  | (refine Lex.skips (by rfl) ?_; (try simp only [Act.put, List.setIfInBounds_toArray, List.set_cons_zero, List.set_cons_succ]))
                  | (refine Lex.quiet (v := ?_) (by rfl) (by rfl) ?_ ?_; rotate_left; (focus (intro w' hS'; go_simp; try rfl)); (try simp only [Act.put, List.setIfInBounds_toArray, List.set_cons_zero, List.set_cons_succ])))
                refine Lex.done ?_
                refine Lex.ends ?_
                have HFN : Hid (fl ++ [z2] = [fm] ++ (l.take (k + 1)).map (fun k => bhd (ms.getD k (18446744073709551615 : Nat)) (wrN is k) ||| fm)) := Lib.hid (by
                  rw [HTK.out, List.map_append, ← List.append_assoc, ← hfl.out, List.map_cons, List.map_nil, HEX.out])
                go_wp2_with fail
                go_roundw
                case rel => exact ⟨k + 1, fl ++ [z2], ga, gc, by simp, by simp, HK1, HFN, Lib.hid (by simpa using HO8.out), R8⟩
                case measure => simp [nOf]; omega
              case pos =>
                subst hkl
                have hfll : fl.length ≤ 2000 := by rw [hfl.out]; simp; omega
                have HFL : Hid (fl = fromL pn (wrN is) ms l i) := Lib.hid (by
                  unfold fromL
                  rw [hfl.out, List.take_length, ← HPRE.out, ← HFM.out])
                have HLE : Hid (∀ x ∈ fl, x ≤ (18446744073709551615 : Nat)) := Lib.hid (fun x hx => by
                  rw [hfl.out] at hx
                  rcases List.mem_append.1 hx with hx | hx
                  · simp at hx <;> omega
                  · obtain ⟨y, hy, rfl⟩ := List.mem_map.1 hx
                    exact or_le (bhd_le (getD_le HM.out.lt y) (wrN_lt HC.out y)) hfml)
                have HMKK : Hid (∀ r, r < 64 → ((meetL (18446744073709551615 : Nat) fl).testBit r = false ↔ Src is.length pn (nx (fis is)) (wrN is) ms r i)) := Lib.hid (by rw [HFL.out]; exact HMK.out)
                have hmkl : meetL (18446744073709551615 : Nat) fl ≤ (18446744073709551615 : Nat) := meetL_le _ _
                have HME := Lib.hid (meet_ok wr (18446744073709551615 : Nat) (.slice fa fl.length fc) fl (owns_reads HO.out) (Nat.le_refl _) HLE.out (by omega))
                generalize meetL (18446744073709551615 : Nat) fl = mk at *
                clear hk0 hfl HO HFL HLE HMK
                go_wp2_with fail
                refine HME.out.mono ?_
                rintro e w9 ⟨rfl, dq, rfl⟩
                have HG9 := Lib.hid (((Fr.refl no wr).drewN dq).heap (HRI.out.heap HG7.out (by simp)) (by simp))
                have R9 := Lib.hid (R7.out.trans (HRI.out.drewN dq))
                have HQ9 := Lib.hid (HQ1.out.frx (HRI.out.drewN dq) (by simp) (by simp))
                generalize wr.drewN dq = w9 at *
                have cm := cmi.out w9 HG9.out
                clear HME HRI
                by_cases heq : mk = mi
                · subst heq
                  have HMN := Lib.hid (HM.out.same HMI.out HMKK.out HM1.out)
                  have HBN : Hid (q1.length + 2 * allBits ms ≤ 128 * is.length + 1) := Lib.hid (by have := HB.out; have := HL1.out; omega)
                  have HLT : Hid (2 * cntB w9 ib + lenS w9 (Q + 1) < 2 * cntB wo ib + lenS wo (Q + 1)) := Lib.hid (by rw [cntB_at HG9.out, HQ9.out.lenq, HCB.out, HLS.out]; have := HL1.out; omega)
                  go_wp2_with fail
                  go_roundw
                  case rel => exact ⟨ms, q1, HMN, HG9, HQ9, HBN, R9⟩
                  case measure => exact HLT.out
                · have e1 : ((mk : Int) == (mi : Int)) = false := by simp; omega
                  have HMN := Lib.hid (fun q2 => HM.out.turn hi hmkl HMKK.out HNL.out HM1.out (q2 := q2))
                  have HLS2 := Lib.hid (HM.out.less HMI.out hmkl HMKK.out heq)
                  have f9 : w9.frozen? ⟨ib, i, none⟩ = false := frozen_of_heap HG9.out
                  clear heq HMKK
                  have hn1 := HN1.out
                  obtain ⟨rv, h1, h2⟩ := hn1
                  rw [nxs_len] at h1
                  have hl := h1.len
                  have hk : i < rv.length := by omega
                  obtain ⟨nb, no', en, e2⟩ := h1.at1 (k := i) (u := rv[i]) (List.getElem?_eq_getElem hk)
                  have hrv := h2 i _ _ (List.getElem?_eq_getElem hk) (nxs_at is i hi)
                  generalize rv[i] = v at *
                  obtain ⟨ya, yc, rfl⟩ := hrv.shape
                  have HRV1 := Lib.hid hrv
                  have E2 := Lib.hid e2
                  subst en
                  have hnf := nx_few (fis is) i
                  clear h1 h2 hl hk hrv e2
                  go_upto_region 32 with fail
                  have r10 : Fr (only [ib]) w9 (w9.setCell ⟨ib, i, none⟩ (.int .u64 mk)) := (Fr.refl _ w9).setCell _ _ (.inl (by simp))
                  have HG10 : Hid ((w9.setCell ⟨ib, i, none⟩ (.int .u64 mk)).heap[ib]? = some (.cells (u64L (ms.set i mk)).toArray 30 (0, 0))) := Lib.hid (by rw [heap_setCell HG9.out]; simp [u64L, List.map_set])
                  have HQ10 := Lib.hid (HQ9.out.frx r10 (by simp; omega) (fun k hk hne => by simp; omega))
                  have R10 := Lib.hid (R9.out.trans' r10 (fun k hk _ => by have := HIB.out; simp at hk; omega))
                  clear r10 HG9 HQ9 R9 cm f9 e1
                  generalize w9.setCell ⟨ib, i, none⟩ (.int .u64 mk) = w10 at *
                  have c2 := (HR4.out.trans R10.out).cell E2.out (by simp)
                  generalize nx (fis is) i = nk at *
                  go_wp2_with fail
                  go_loopw [130] (fun x wr => ∃ (t : Nat) (q2 : List Nat), x = .int .i64 t ∧ Hid (t ≤ nk.length) ∧ Hid (QAt wr Q (Q + 1) q2) ∧ Hid (q2.length = q1.length + t) ∧ Hid (∀ x, x ∈ q2 ↔ x ∈ nk.take t ∨ x ∈ q1) ∧ Hid (Fr (fun k => Q ≤ k) w10 wr)) (fun x _ => nk.length - nOf x)
                  case atStart => exact ⟨0, q1, rfl, Lib.hid (by omega), HQ10, Lib.hid rfl, Lib.hid (fun x => by simp), Lib.hid (Fr.refl _ _)⟩
                  case round =>
                    clear HQ10
                    obtain ⟨t, q2, rfl, ht0, HQ2, HL2, HM2, HR2⟩ := hrel
                    by_cases htn : t = nk.length
                    · subst htn
                      have HG2 := Lib.hid (HR2.out.heap HG10.out (by show ¬ Q ≤ ib; omega))
                      have R2 := Lib.hid (R10.out.trans' HR2.out (fun k hk _ => by have : Q ≤ k := hk; have := HQS.out; omega))
                      have HMF := Lib.hid (HMN.out q2 (fun x => by rw [HM2.out x, List.take_length]))
                      have HBF : Hid (q2.length + 2 * allBits (ms.set i mk) ≤ 128 * is.length + 1) := Lib.hid (by have := HB.out; have := HL1.out; have := HL2.out; have := HLS2.out; omega)
                      have HLT : Hid (2 * cntB wr ib + lenS wr (Q + 1) < 2 * cntB wo ib + lenS wo (Q + 1)) := Lib.hid (by rw [cntB_at HG2.out, HQ2.out.lenq, HCB.out, HLS.out]; have := HL1.out; have := HL2.out; have := HLS2.out; omega)
                      go_wp2_with fail
                      go_roundw
                      case rel => exact ⟨ms.set i mk, q2, HMF, HG2, HQ2, HBF, R2⟩
                      case measure => exact HLT.out
                    · have htl : t < nk.length := by have := ht0.out; omega
                      have htl' : (t : Int) < nk.length := by omega
                      have RWo := Lib.hid (HR4.out.trans (R10.out.trans' HR2.out (fun k hk _ => by have : Q ≤ k := hk; have := HQS.out; omega)))
                      obtain ⟨vb, vo, rfl, e3⟩ := (HRV1.out.fr RWo.out (by simp)).at1 (k := t) (u := .int .i64 (nk[t] : Nat)) (by first | (simp [ints, nats, htl]; done) | (simp [ints, nats, htl]; rfl))
                      have HTK : Hid (nk.take (t + 1) = nk.take t ++ [nk[t]]) := Lib.hid (List.take_succ_eq_append_getElem htl)
                      have HT1 : Hid (t + 1 ≤ nk.length) := Lib.hid htl
                      generalize nk[t] = j at *
                      have hsz : Q ≤ wr.heap.size := by have := HQ2.out.szB; omega
                      have hq2 : q2.length ≤ 10000 := by have := HB.out; have := HL1.out; have := HL2.out; omega
                      clear htn ht0 RWo
                      go_wp2_with fail
                      refine (hpush_ok wr Q (Q + 1) q2 j HQ2.out hsz (by omega) hq2).mono ?_
                      rintro e w12 ⟨⟨vv, rfl⟩, q3, hq3, hl3, hm3, r12⟩
                      have HQ3 := Lib.hid hq3
                      have HL3 : Hid (q3.length = q1.length + (t + 1)) := Lib.hid (by have := HL2.out; omega)
                      have HM3 : Hid (∀ x, x ∈ q3 ↔ x ∈ nk.take (t + 1) ∨ x ∈ q1) := Lib.hid (fun x => by
                        rw [hm3 x, HM2.out x, HTK.out, List.mem_append, List.mem_singleton]
                        constructor
                        · rintro (h | h | h)
                          · exact .inl (.inr h)
                          · exact .inl (.inl h)
                          · exact .inr h
                        · rintro ((h | h) | h)
                          · exact .inr (.inl h)
                          · exact .inl h
                          · exact .inr (.inr h))
                      have HR3 := Lib.hid (HR2.out.trans r12)
                      clear hq3 hl3 hm3 r12 HQ2 HL2 HM2 HR2
                      go_wp2_with fail
                      go_roundw
                      case rel => exact ⟨t + 1, q3, by simp, HT1, HQ3, HL3, HM3, HR3⟩
                      case measure => simp [nOf]; omega
          · have e0 : ((i : Int) == 0) = false := by simp; omega
            have HPRE : Hid (([] : List Nat) = if i = 0 then [2 ^ pn - 1] else []) := Lib.hid (by rw [if_neg h0])
            have HOS : Hid (w7.ownsRow w7.heap.size 30 1 (.slice none 0 0) 0 (u64L [])) := Lib.hid ⟨rfl, .inl ⟨rfl, rfl⟩⟩
            have R8S : Hid (Fr no w7 w7) := Lib.hid (Fr.refl _ _)
            clear h0
            go_wp2_with fail
            clear c3 e0
            go_loopw [94, 17] (fun x y wr => ∃ (k : Nat) (fl : List Nat) (fa : Option Addr) (fc : Nat), x = .int .i64 k ∧ y = .slice fa fl.length fc ∧ Hid (k ≤ l.length) ∧ Hid (fl = ([] : List Nat) ++ (l.take k).map (fun k => bhd (ms.getD k (18446744073709551615 : Nat)) (wrN is k) ||| fm)) ∧ Hid (wr.ownsRow w7.heap.size 30 1 (.slice fa fl.length fc) fl.length (u64L fl)) ∧ Hid (Fr no w7 wr)) (fun x _ _ => l.length - nOf x)
            case atStart => exact ⟨0, [], none, 0, rfl, rfl, Lib.hid (by omega), Lib.hid (by simp), HOS, R8S⟩
            case round =>
              clear HOS R8S
              obtain ⟨k, fl, fa, fc, rfl, rfl, hk0, hfl, HO, HRI⟩ := hrel
              by_cases hkl : k = l.length
              case neg =>
                have hkk : k < l.length := by have := hk0.out; omega
                have hkk' : (k : Int) < l.length := by omega
                have HK1 : Hid (k + 1 ≤ l.length) := Lib.hid hkk
                have hfll : fl.length ≤ 2000 := by rw [hfl.out]; simp; omega
                obtain ⟨lb, lo, rfl, e3⟩ := (HLR.out.fr HRI.out (by simp)).at1 (k := k) (u := .int .i64 (l[k] : Nat)) (by first | (simp [ints, nats, hkk]; done) | (simp [ints, nats, hkk]; rfl))
                have hkn : l[k] < is.length := ((HLM.out l[k]).1 (List.getElem_mem hkk)).1
                have HTK : Hid (l.take (k + 1) = l.take k ++ [l[k]]) := Lib.hid (List.take_succ_eq_append_getElem hkk)
                generalize l[k] = kk at *
                have hkn' : (kk : Int) < is.length := by omega
                have hkm : kk < ms.length := by rw [HM.out.len]; exact hkn
                have hml := HM.out.lt ms[kk] (List.getElem_mem hkm)
                have HGD : Hid (ms.getD kk (18446744073709551615 : Nat) = ms[kk]) := Lib.hid (by simp [List.getD_eq_getElem?_getD, hkm])
                have cm : wr.cell? ⟨ib, kk, none⟩ = some (.int .u64 (ms[kk] : Nat)) := cell_of_heap (HRI.out.heap HG7.out (by simp)) (by simp [u64L, hkm])
                generalize ms[kk] = m at *
                obtain ⟨b1, o1, u1, rfl, h1w⟩ := HIN1.out kk hkn
                have HB1 : Hid (b1 < w1.heap.size) := Lib.hid (World.block_lt_of_cell? w1 _ (h1w.cell 0 _ rfl))
                have h1 := h1w.fr (HR4.out.trans (R7.out.trans HRI.out))
                clear h1w
                obtain ⟨i1, hi1⟩ : ∃ i, i = is[kk] := ⟨_, rfl⟩
                rw [← hi1] at h1
                have hck : ckOf i1 = 0 := by rw [hi1]; exact HC.out _ (List.getElem_mem hkn)
                have HWR : Hid (wrN is kk = wrI i1) := Lib.hid (by rw [wrN_at is kk hkn, hi1])
                have hwr := wr_rng hck
                have HBE := Lib.hid (fun w => behind_ok w m i1 u1 hml hwr)
                have hbl : bhd m (wrI i1) ≤ (18446744073709551615 : Nat) := bhd_le hml (by omega)
                have HEX : Hid (bhd (ms.getD kk (18446744073709551615 : Nat)) (wrN is kk) ||| fm = bhd m (wrI i1) ||| fm) := Lib.hid (by rw [HGD.out, HWR.out])
                generalize bhd m (wrI i1) = bz at *
                have eor := or_u64 bz fm hbl hfml
                generalize bz ||| fm = z2 at *
                have A1 := Lib.hid (h1.at_.fr ((Fr.refl no wr).drew))
                have hcm := Lib.hid (((Fr.refl no wr).drew).cell cm (by simp))
                have HO1 := Lib.hid (owns_fr HO.out ((Fr.refl no wr).drew) (fun k hk => by simp))
                have HRI1 := Lib.hid (HRI.out.drew)
                clear hkl hk0 hkm hml hi1 hck h1 HWR hwr hbl cm HO HRI HGD hkn
                obtain ⟨a1, a2, a3, a4, a5, a6⟩ := i1
                unfold Ix.cells at A1
                unfold insV at HBE
                dsimp only at A1 HBE
                go_upto_region 27 with fail
                refine Lex.region [9, 12, 13] [14, 1] (by kernel_rfl) (by kernel_rfl) ?_
                refine Lex.opens (fun w' => w'.cell? ⟨ib, kk, none⟩ = some (.int .u64 m) ∧ At w' b1 (o1 + kk * 6) [.int .i64 a1, .int .i64 a2, .int .i64 a3, .int .i64 a4, .int .i64 a5, u1]) (⟨hcm.out, A1.out⟩) ?_
                repeat (first
                  | (refine Lex.skips (by rfl) ?_; (try simp only [Act.put, List.setIfInBounds_toArray, List.set_cons_zero, List.set_cons_succ]))
                  | (refine Lex.into (by rfl) (by rfl) _ _ rfl _ _ rfl _ _ (fun w' h => h.2) Tryz.underlying47 rfl (by rw [Tryz.infoIns]; rfl) ?_; (try simp only [Act.put, List.setIfInBounds_toArray, List.set_cons_zero, List.set_cons_succ]))
                  | (refine Lex.quiet (v := ?_) (by rfl) (by rfl) ?_ ?_; rotate_left; (focus (intro w' hS'; go_simp; try rfl)); (try simp only [Act.put, List.setIfInBounds_toArray, List.set_cons_zero, List.set_cons_succ])))
                refine Lex.loud (by rfl) (by rfl) ?_
                intro K' hK'
                go_simp
                refine (HBE.out _).mono ?_
                rintro e w2 ⟨rfl, r2⟩
                have hcm2 := Lib.hid (r2.cell hcm.out (by simp))
                have A2 := Lib.hid (A1.out.fr r2)
                have HO2 := Lib.hid (owns_fr HO1.out r2 (fun k hk => by simp))
                have HRI2 := Lib.hid (HRI1.out.trans r2)
                clear r2 hcm A1 HO1 HRI1
                refine hK' _ _ (⟨hcm2.out, A2.out⟩) ?_
                clear hK'
                try simp only [Act.put, List.setIfInBounds_toArray, List.set_cons_zero, List.set_cons_succ]
                repeat (first
                  | (refine Lex.skips (by rfl) ?_; (try simp only [Act.put, List.setIfInBounds_toArray, List.set_cons_zero, List.set_cons_succ]))
                  | (refine Lex.quiet (v := ?_) (by rfl) (by rfl) ?_ ?_; rotate_left; (focus (intro w' hS'; go_simp; try rfl)); (try simp only [Act.put, List.setIfInBounds_toArray, List.set_cons_zero, List.set_cons_succ])))
                refine Lex.loud (by rfl) (by rfl) ?_
                intro K' hK'
                go_simp
                have q3 : Fr no w2 (w2.alloc (.cells #[.int .u64 z2] 30)) := (Fr.refl _ _).alloc _
                have hcm3 := Lib.hid (q3.cell hcm2.out (by simp))
                have A3 := Lib.hid (A2.out.fr q3)
                have HO3 := Lib.hid (owns_fr HO2.out q3 (fun k hk => by simp))
                have HRI3 := Lib.hid (HRI2.out.trans q3)
                have HR3 : Hid (Reads (w2.alloc (.cells #[.int .u64 z2] 30)) (.slice (some ⟨w2.heap.size, 0, none⟩) 1 1) 1 1 (u64L [z2])) := Lib.hid (reads_one w2 _ _)
                clear q3 hcm2 A2 HO2 HRI2
                generalize w2.alloc (.cells #[.int .u64 z2] 30) = w3' at *
                refine hK' _ _ (⟨hcm3.out, A3.out⟩) ?_
                clear hK'
                try simp only [Act.put, List.setIfInBounds_toArray, List.set_cons_zero, List.set_cons_succ]
                repeat (first
                  | (refine Lex.skips (by rfl) ?_; (try simp only [Act.put, List.setIfInBounds_toArray, List.set_cons_zero, List.set_cons_succ]))
                  | (refine Lex.quiet (v := ?_) (by rfl) (by rfl) ?_ ?_; rotate_left; (focus (intro w' hS'; go_simp; try rfl)); (try simp only [Act.put, List.setIfInBounds_toArray, List.set_cons_zero, List.set_cons_succ])))
                refine Lex.loud (by rfl) (by rfl) ?_
                intro K' hK'
                refine wp_append_at (.tmp 98) (.tmp 110) 26 rfl w7.heap.size 30 (.int .u64 0) 1 8 Tryz.underlying26 Tryz.infoU64 rfl (by decide) (.slice fa fl.length fc) fl.length (u64L fl) (by simp [Act.eval]) HO3.out 1 (u64L [z2]) HR3.out (by simp [u64L, Value.oneCell']) (by unfold maxLen; omega) (by omega) HRI3.out.size ?_
                intro ga gc w8 ho8 hg8 hb8
                have HO8 : Hid (w8.ownsRow w7.heap.size 30 1 (.slice ga (fl.length + 1) gc) (fl.length + 1) (u64L (fl ++ [z2]))) := Lib.hid (by simpa [u64L] using ho8)
                have R8 := Lib.hid (HRI3.out.grown hg8 (fun k hk => .inr (HO3.out.lt k hk).1))
                have hcm8 : w8.cell? ⟨ib, kk, none⟩ = some (.int .u64 m) := by
                  have r := (Fr.refl (fun k => (Value.slice fa fl.length fc).ownBlock = some k) w3').grown hg8 (fun k hk => .inl hk)
                  refine r.cell hcm3.out (fun hk => ?_)
                  have := (HO3.out.lt _ hk).1
                  have := (Array.getElem?_eq_some_iff.1 HG7.out).1
                  simp at *
                  omega
                have A8 : At w8 b1 (o1 + kk * 6) [.int .i64 a1, .int .i64 a2, .int .i64 a3, .int .i64 a4, .int .i64 a5, u1] := by
                  refine A3.out.frx ((Fr.refl (fun k => (Value.slice fa fl.length fc).ownBlock = some k) w3').grown hg8 (fun k hk => .inl hk)) (fun hk => ?_)
                  have h1 := (HO3.out.lt _ hk).1
                  have h2 := HB1.out
                  have h3 := HR4.out.size
                  have h5 := R7.out.size
                  omega
                clear ho8 hg8 hb8 HO3 HRI3 HR3 hcm3 A3
                refine hK' _ _ ⟨hcm8, A8⟩ ?_
                clear hK'
                try simp only [Act.put, List.setIfInBounds_toArray, List.set_cons_zero, List.set_cons_succ]
                clear hcm8 A8
                refine Lex.done ?_
                refine Lex.opens (fun _ => True) (trivial) ?_
                repeat (first
                  | (refine Lex.skips (by rfl) ?_; (try simp only [Act.put, List.setIfInBounds_toArray, List.set_cons_zero, List.set_cons_succ]))
                  | (refine Lex.quiet (v := ?_) (by rfl) (by rfl) ?_ ?_; rotate_left; (focus (intro w' hS'; go_simp; try rfl)); (try simp only [Act.put, List.setIfInBounds_toArray, List.set_cons_zero, List.set_cons_succ])))
                refine Lex.done ?_
                refine Lex.ends ?_
                have HFN : Hid (fl ++ [z2] = ([] : List Nat) ++ (l.take (k + 1)).map (fun k => bhd (ms.getD k (18446744073709551615 : Nat)) (wrN is k) ||| fm)) := Lib.hid (by
                  rw [HTK.out, List.map_append, ← List.append_assoc, ← hfl.out, List.map_cons, List.map_nil, HEX.out])
                go_wp2_with fail
                go_roundw
                case rel => exact ⟨k + 1, fl ++ [z2], ga, gc, by simp, by simp, HK1, HFN, Lib.hid (by simpa using HO8.out), R8⟩
                case measure => simp [nOf]; omega
              case pos =>
                subst hkl
                have hfll : fl.length ≤ 2000 := by rw [hfl.out]; simp; omega
                have HFL : Hid (fl = fromL pn (wrN is) ms l i) := Lib.hid (by
                  unfold fromL
                  rw [hfl.out, List.take_length, ← HPRE.out, ← HFM.out])
                have HLE : Hid (∀ x ∈ fl, x ≤ (18446744073709551615 : Nat)) := Lib.hid (fun x hx => by
                  rw [hfl.out] at hx
                  rcases List.mem_append.1 hx with hx | hx
                  · simp at hx <;> omega
                  · obtain ⟨y, hy, rfl⟩ := List.mem_map.1 hx
                    exact or_le (bhd_le (getD_le HM.out.lt y) (wrN_lt HC.out y)) hfml)
                have HMKK : Hid (∀ r, r < 64 → ((meetL (18446744073709551615 : Nat) fl).testBit r = false ↔ Src is.length pn (nx (fis is)) (wrN is) ms r i)) := Lib.hid (by rw [HFL.out]; exact HMK.out)
                have hmkl : meetL (18446744073709551615 : Nat) fl ≤ (18446744073709551615 : Nat) := meetL_le _ _
                have HME := Lib.hid (meet_ok wr (18446744073709551615 : Nat) (.slice fa fl.length fc) fl (owns_reads HO.out) (Nat.le_refl _) HLE.out (by omega))
                generalize meetL (18446744073709551615 : Nat) fl = mk at *
                clear hk0 hfl HO HFL HLE HMK
                go_wp2_with fail
                refine HME.out.mono ?_
                rintro e w9 ⟨rfl, dq, rfl⟩
                have HG9 := Lib.hid (((Fr.refl no wr).drewN dq).heap (HRI.out.heap HG7.out (by simp)) (by simp))
                have R9 := Lib.hid (R7.out.trans (HRI.out.drewN dq))
                have HQ9 := Lib.hid (HQ1.out.frx (HRI.out.drewN dq) (by simp) (by simp))
                generalize wr.drewN dq = w9 at *
                have cm := cmi.out w9 HG9.out
                clear HME HRI
                by_cases heq : mk = mi
                · subst heq
                  have HMN := Lib.hid (HM.out.same HMI.out HMKK.out HM1.out)
                  have HBN : Hid (q1.length + 2 * allBits ms ≤ 128 * is.length + 1) := Lib.hid (by have := HB.out; have := HL1.out; omega)
                  have HLT : Hid (2 * cntB w9 ib + lenS w9 (Q + 1) < 2 * cntB wo ib + lenS wo (Q + 1)) := Lib.hid (by rw [cntB_at HG9.out, HQ9.out.lenq, HCB.out, HLS.out]; have := HL1.out; omega)
                  go_wp2_with fail
                  go_roundw
                  case rel => exact ⟨ms, q1, HMN, HG9, HQ9, HBN, R9⟩
                  case measure => exact HLT.out
                · have e1 : ((mk : Int) == (mi : Int)) = false := by simp; omega
                  have HMN := Lib.hid (fun q2 => HM.out.turn hi hmkl HMKK.out HNL.out HM1.out (q2 := q2))
                  have HLS2 := Lib.hid (HM.out.less HMI.out hmkl HMKK.out heq)
                  have f9 : w9.frozen? ⟨ib, i, none⟩ = false := frozen_of_heap HG9.out
                  clear heq HMKK
                  have hn1 := HN1.out
                  obtain ⟨rv, h1, h2⟩ := hn1
                  rw [nxs_len] at h1
                  have hl := h1.len
                  have hk : i < rv.length := by omega
                  obtain ⟨nb, no', en, e2⟩ := h1.at1 (k := i) (u := rv[i]) (List.getElem?_eq_getElem hk)
                  have hrv := h2 i _ _ (List.getElem?_eq_getElem hk) (nxs_at is i hi)
                  generalize rv[i] = v at *
                  obtain ⟨ya, yc, rfl⟩ := hrv.shape
                  have HRV1 := Lib.hid hrv
                  have E2 := Lib.hid e2
                  subst en
                  have hnf := nx_few (fis is) i
                  clear h1 h2 hl hk hrv e2
                  go_upto_region 32 with fail
                  have r10 : Fr (only [ib]) w9 (w9.setCell ⟨ib, i, none⟩ (.int .u64 mk)) := (Fr.refl _ w9).setCell _ _ (.inl (by simp))
                  have HG10 : Hid ((w9.setCell ⟨ib, i, none⟩ (.int .u64 mk)).heap[ib]? = some (.cells (u64L (ms.set i mk)).toArray 30 (0, 0))) := Lib.hid (by rw [heap_setCell HG9.out]; simp [u64L, List.map_set])
                  have HQ10 := Lib.hid (HQ9.out.frx r10 (by simp; omega) (fun k hk hne => by simp; omega))
                  have R10 := Lib.hid (R9.out.trans' r10 (fun k hk _ => by have := HIB.out; simp at hk; omega))
                  clear r10 HG9 HQ9 R9 cm f9 e1
                  generalize w9.setCell ⟨ib, i, none⟩ (.int .u64 mk) = w10 at *
                  have c2 := (HR4.out.trans R10.out).cell E2.out (by simp)
                  generalize nx (fis is) i = nk at *
                  go_wp2_with fail
                  go_loopw [130] (fun x wr => ∃ (t : Nat) (q2 : List Nat), x = .int .i64 t ∧ Hid (t ≤ nk.length) ∧ Hid (QAt wr Q (Q + 1) q2) ∧ Hid (q2.length = q1.length + t) ∧ Hid (∀ x, x ∈ q2 ↔ x ∈ nk.take t ∨ x ∈ q1) ∧ Hid (Fr (fun k => Q ≤ k) w10 wr)) (fun x _ => nk.length - nOf x)
                  case atStart => exact ⟨0, q1, rfl, Lib.hid (by omega), HQ10, Lib.hid rfl, Lib.hid (fun x => by simp), Lib.hid (Fr.refl _ _)⟩
                  case round =>
                    clear HQ10
                    obtain ⟨t, q2, rfl, ht0, HQ2, HL2, HM2, HR2⟩ := hrel
                    by_cases htn : t = nk.length
                    · subst htn
                      have HG2 := Lib.hid (HR2.out.heap HG10.out (by show ¬ Q ≤ ib; omega))
                      have R2 := Lib.hid (R10.out.trans' HR2.out (fun k hk _ => by have : Q ≤ k := hk; have := HQS.out; omega))
                      have HMF := Lib.hid (HMN.out q2 (fun x => by rw [HM2.out x, List.take_length]))
                      have HBF : Hid (q2.length + 2 * allBits (ms.set i mk) ≤ 128 * is.length + 1) := Lib.hid (by have := HB.out; have := HL1.out; have := HL2.out; have := HLS2.out; omega)
                      have HLT : Hid (2 * cntB wr ib + lenS wr (Q + 1) < 2 * cntB wo ib + lenS wo (Q + 1)) := Lib.hid (by rw [cntB_at HG2.out, HQ2.out.lenq, HCB.out, HLS.out]; have := HL1.out; have := HL2.out; have := HLS2.out; omega)
                      go_wp2_with fail
                      go_roundw
                      case rel => exact ⟨ms.set i mk, q2, HMF, HG2, HQ2, HBF, R2⟩
                      case measure => exact HLT.out
                    · have htl : t < nk.length := by have := ht0.out; omega
                      have htl' : (t : Int) < nk.length := by omega
                      have RWo := Lib.hid (HR4.out.trans (R10.out.trans' HR2.out (fun k hk _ => by have : Q ≤ k := hk; have := HQS.out; omega)))
                      obtain ⟨vb, vo, rfl, e3⟩ := (HRV1.out.fr RWo.out (by simp)).at1 (k := t) (u := .int .i64 (nk[t] : Nat)) (by first | (simp [ints, nats, htl]; done) | (simp [ints, nats, htl]; rfl))
                      have HTK : Hid (nk.take (t + 1) = nk.take t ++ [nk[t]]) := Lib.hid (List.take_succ_eq_append_getElem htl)
                      have HT1 : Hid (t + 1 ≤ nk.length) := Lib.hid htl
                      generalize nk[t] = j at *
                      have hsz : Q ≤ wr.heap.size := by have := HQ2.out.szB; omega
                      have hq2 : q2.length ≤ 10000 := by have := HB.out; have := HL1.out; have := HL2.out; omega
                      clear htn ht0 RWo
                      go_wp2_with fail
                      refine (hpush_ok wr Q (Q + 1) q2 j HQ2.out hsz (by omega) hq2).mono ?_
                      rintro e w12 ⟨⟨vv, rfl⟩, q3, hq3, hl3, hm3, r12⟩
                      have HQ3 := Lib.hid hq3
                      have HL3 : Hid (q3.length = q1.length + (t + 1)) := Lib.hid (by have := HL2.out; omega)
                      have HM3 : Hid (∀ x, x ∈ q3 ↔ x ∈ nk.take (t + 1) ∨ x ∈ q1) := Lib.hid (fun x => by
                        rw [hm3 x, HM2.out x, HTK.out, List.mem_append, List.mem_singleton]
                        constructor
                        · rintro (h | h | h)
                          · exact .inl (.inr h)
                          · exact .inl (.inl h)
                          · exact .inr h
                        · rintro ((h | h) | h)
                          · exact .inr (.inl h)
                          · exact .inl h
                          · exact .inr (.inr h))
                      have HR3 := Lib.hid (HR2.out.trans r12)
                      clear hq3 hl3 hm3 r12 HQ2 HL2 HM2 HR2
                      go_wp2_with fail
                      go_roundw
                      case rel => exact ⟨t + 1, q3, by simp, HT1, HQ3, HL3, HM3, HR3⟩
                      case measure => simp [nOf]; omega

end Go.Proofs.YtofahdjnejodjaaGreat
